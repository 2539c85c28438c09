import GoSem.Step
set_option linter.unusedVariables false
set_option linter.unusedSimpArgs false
/- The engine, first text: the abstract machine's values, blocks, operations. -/
namespace Go.Proofs.Ytnkeijebkpjdgaa.Ab
open Go

/-- A value of the abstract machine. A slice that nobody writes is a value (sl: its cells, how many elements, whether its capacity is its length); what is written stands in a numbered block (ref, rsl, mref, yc). -/
inductive AV where
  | hole
  | bool (b : Bool)
  | int (k : IntKind) (n : Int)
  | str (s : List UInt8)
  | ptr0
  | sl0
  | map0
  | fn0
  | ifc0
  | ref (b off ver : Nat)
  | vref (cells : List AV) (off : Nat)
  | sl (cells : List AV) (n : Nat) (tight : Bool)
  | rsl (b off n : Nat) (cap : Option Nat) (ver : Nat)
  | mref (b : Nat)
  | fn (f : FuncId) (first captured : List AV)
  | yc (b : Nat)
  | ifc (t : TypeId) (v : AV)
  | agg (cells : List AV)
  | tup (vs : List AV)
  deriving Inhabited

/-- The slots of an activation, in a tree by their numbers' digits. -/
inductive RT where
  | leaf
  | node (v : AV) (l r : RT)
  deriving Inhabited
def RT.get : RT → Nat → AV
  | .leaf, _ => .hole
  | .node v l r, n => bif Nat.beq n 1 then v else bif Nat.beq (n % 2) 0 then l.get (n / 2) else r.get (n / 2)
def RT.put (v : AV) : RT → Nat → RT
  | .leaf, _ => .leaf
  | .node x l r, n => bif Nat.beq n 1 then .node v l r else bif Nat.beq (n % 2) 0 then .node x (l.put v (n / 2)) r else .node x l (r.put v (n / 2))
def RT.mk : Nat → RT
  | 0 => .leaf
  | n + 1 => .node .hole (RT.mk n) (RT.mk n)
structure RG where
  n : Nat
  t : RT
  deriving Inhabited
def RG.get (r : RG) (i : Nat) : AV := r.t.get (i + 1)
def RG.put (r : RG) (i : Nat) (v : AV) : RG := bif Nat.blt i r.n then { r with t := r.t.put v (i + 1) } else r
/-- How many digits a number has, less one. -/
def digs : Nat → Nat → Nat
  | 0, _ => 0
  | f + 1, n => bif Nat.ble 2 n then digs f (n / 2) + 1 else 0
def RG.empty (n : Nat) : RG := ⟨n, RT.mk (digs 20 n + 1)⟩
def RG.puts : RG → Nat → List AV → RG
  | r, _, [] => r
  | r, i, v :: l => (r.put i v).puts (i + 1) l

/-- Of what kind a block of cells is: free of numbered blocks; how many cells an element has; open: its capacity is not known; whether it may be written. -/
structure BI where
  cl : Bool
  sz : Nat
  opn : Bool
  wr : Bool

inductive AB where
  | dead
  | void
  | cells (c : List AV) (i : BI)
  | map (es : List (AV × AV))
  | loop (fn : FuncId) (tmps : RG) (params : List Tmp) (assign body : Code) (st : LoopState) (pend : Option Code)
  deriving Inhabited

/-- The version of a block: an open one turns by each append. -/
def verA (i : BI) (l : Nat) : Nat := if i.opn then l + 1 else 0
def AB.ver : AB → Nat
  | .cells c i => verA i c.length
  | _ => 0

mutual
/-- No numbered block is named. -/
def AV.clean : AV → Bool
  | .ref .. => false
  | .rsl .. => false
  | .mref .. => false
  | .yc .. => false
  | .fn _ a b => cleanL a && cleanL b
  | .ifc _ v => v.clean
  | .agg c => cleanL c
  | .tup c => cleanL c
  | _ => true
def cleanL : List AV → Bool
  | [] => true
  | v :: r => v.clean && cleanL r
end
mutual
/-- Every numbered block that is named is below n. -/
def AV.und (n : Nat) : AV → Bool
  | .ref b _ _ => decide (b < n)
  | .rsl b _ _ _ _ => decide (b < n)
  | .mref b => decide (b < n)
  | .yc b => decide (b < n)
  | .fn _ a b => undL n a && undL n b
  | .ifc _ v => v.und n
  | .agg c => undL n c
  | .tup c => undL n c
  | _ => true
def undL (n : Nat) : List AV → Bool
  | [] => true
  | v :: r => v.und n && undL n r
end
mutual
/-- One more than the greatest numbered block that is named. -/
def AV.top : AV → Nat
  | .ref b _ _ => b + 1
  | .rsl b _ _ _ _ => b + 1
  | .mref b => b + 1
  | .yc b => b + 1
  | .fn _ a b => max (topL a) (topL b)
  | .ifc _ v => v.top
  | .agg c => topL c
  | .tup c => topL c
  | _ => 0
def topL : List AV → Nat
  | [] => 0
  | v :: r => max v.top (topL r)
end

def RT.top : RT → Nat
  | .leaf => 0
  | .node v l r => max v.top (max l.top r.top)
/-- One more than the greatest numbered block that a block names. -/
def AB.top : AB → Nat
  | .cells c i => if i.cl then 0 else topL c
  | .map es => max (topL (es.map (·.1))) (topL (es.map (·.2)))
  | .loop _ r _ _ _ _ _ => r.t.top
  | _ => 0

/-- The heap: its blocks; which blocks came to name younger ones by a store (block, one more than the youngest). -/
structure H where
  bs : List AB
  esc : List (Nat × Nat)

/-- What an operation does to the heap. -/
inductive WL where
  | none
  | new (b : AB)
  | put (b off : Nat) (vs : List AV)
  | blk (b : Nat) (x : AB)

/-- What an operation reads of the heap. -/
inductive RL where
  | cells (b off n : Nat)
  | info (b : Nat)
  | blk (b : Nat)
  | all

/-- An operation: what it reads, step by step. -/
inductive AM (α : Type) where
  | ret (a : α)
  | fail
  | cells (b off n : Nat) (k : List AV → AM α)
  | cell (b off : Nat) (k : AV → AM α)
  | info (b : Nat) (k : BI → Nat → AM α)
  | blk (b : Nat) (k : AB → AM α)

def AM.run {α : Type} : AM α → List AB → Option α
  | .ret a, _ => some a
  | .fail, _ => none
  | .cells b off n k, h => match h[b]? with
    | some (.cells c _) => if off + n ≤ c.length then (k ((c.drop off).take n)).run h else none
    | _ => none
  | .cell b off k, h => match h[b]? with
    | some (.cells c _) => match c[off]? with
      | some v => (k v).run h
      | none => none
    | _ => none
  | .info b k, h => match h[b]? with
    | some (.cells c i) => (k i c.length).run h
    | _ => none
  | .blk b k, h => match h[b]? with
    | some x => (k x).run h
    | none => none

def AM.reads {α : Type} : AM α → List AB → List RL
  | .ret _, _ => []
  | .fail, _ => []
  | .cells b off n k, h => .cells b off n :: match h[b]? with
    | some (.cells c _) => (k ((c.drop off).take n)).reads h
    | _ => []
  | .cell b off k, h => .cells b off 1 :: match h[b]? with
    | some (.cells c _) => match c[off]? with
      | some v => (k v).reads h
      | none => []
    | _ => []
  | .info b k, h => .info b :: match h[b]? with
    | some (.cells c i) => (k i c.length).reads h
    | _ => []
  | .blk b k, h => .blk b :: match h[b]? with
    | some x => (k x).reads h
    | none => []

def AM.bind {α β : Type} : AM α → (α → AM β) → AM β
  | .ret a, f => f a
  | .fail, _ => .fail
  | .cells b off n k, f => .cells b off n fun x => (k x).bind f
  | .cell b off k, f => .cell b off fun x => (k x).bind f
  | .info b k, f => .info b fun x y => (k x y).bind f
  | .blk b k, f => .blk b fun x => (k x).bind f
instance : Monad AM where
  pure := AM.ret
  bind := AM.bind
def AM.ofOption {α : Type} : Option α → AM α
  | some a => .ret a
  | none => .fail

/-! Types -/
section
variable (P : Program)
def szOf (t : TypeId) : Option Nat := (P.info? t).map (·.size)
def bytesA (t : TypeId) : Option Nat := (P.info? t).map (·.bytes)
def isAggA (t : TypeId) : Option Bool :=
  match P.underlying t with
  | some (.struct _) => some true
  | some (.array ..) => some true
  | some _ => some false
  | none => none
end

/-- Is it a value of one cell, surely? -/
def oneA : AV → Bool
  | .agg _ => false
  | .tup _ => false
  | .hole => false
  | _ => true
/-- Cells that can't come to name a block: whole numbers, texts, bools. -/
def plainL : List AV → Bool
  | [] => true
  | .bool _ :: r => plainL r
  | .int .. :: r => plainL r
  | .str _ :: r => plainL r
  | _ => false
def oneL : List AV → Bool
  | [] => true
  | v :: r => oneA v && oneL r
/-- A constant, of one cell. -/
def AV.ofCell : Value → AV
  | .bool b => .bool b
  | .int k n => .int k n
  | .string s => .str s.data.toList
  | .pointer none => .ptr0
  | .slice none 0 0 => .sl0
  | .map none => .map0
  | .nilFunc => .fn0
  | .nilIface => .ifc0
  | _ => .hole
/-- A constant. -/
def AV.ofValue : Value → AV
  | .agg cs => .agg (cs.toList.map AV.ofCell)
  | v => AV.ofCell v
/-- The cells of a value. -/
def AV.toCells : AV → Option (List AV)
  | .agg c => some c
  | .tup _ => none
  | .hole => none
  | v => some [v]
def zeroA (P : Program) (t : TypeId) : Option AV := ((P.info? t).bind (·.zero)).map AV.ofValue
def zeroCellsA (P : Program) (t : TypeId) : Option (List AV) := (zeroA P t).bind AV.toCells

/-- A part of a row of cells, as a value of type t. -/
def partA (P : Program) (t : TypeId) (cs : List AV) (off : Nat) : Option AV :=
  match isAggA P t, szOf P t with
  | some true, some n => if off + n ≤ cs.length then some (.agg ((cs.drop off).take n)) else none
  | some false, some _ => cs[off]?
  | _, _ => none

/-- Cells, with some of them written over. -/
def splice : List AV → Nat → List AV → List AV
  | [], _, _ => []
  | x :: c, 0, [] => x :: c
  | _ :: c, 0, v :: vs => v :: splice c 0 vs
  | x :: c, n + 1, vs => x :: splice c n vs
def fillA (place : Nat → Option (Nat × Nat)) : List AV → List (Nat × AV) → Option (List AV)
  | c, [] => some c
  | c, (i, v) :: r =>
    match place i, v.toCells with
    | some (off, n), some vs => if vs.length = n ∧ off + n ≤ c.length then fillA place (splice c off vs) r else none
    | _, _ => none
def repCells (n : Nat) : List AV → List AV
  | [v] => List.replicate n v
  | vs => (List.replicate n vs).flatten

/-- One of two. -/
def pickA (t : Bool) : AV → AV → AV
  | .bool x, .bool y => .bool (if t then x else y)
  | a, b => if t then a else b

/-! Operations on values -/
def intArithA (op : BinOp) (k : IntKind) (x y : Int) : Option AV :=
  match op with
  | .add => some (.int k (k.wrap (x + y)))
  | .sub => some (.int k (k.wrap (x - y)))
  | .mul => some (.int k (k.wrap (x * y)))
  | .quo => if y = 0 then none else some (.int k (k.wrap (x.tdiv y)))
  | .rem => if y = 0 then none else some (.int k (x.tmod y))
  | .and => some (.int k (k.wrap ((BitVec.ofInt k.bits x &&& BitVec.ofInt k.bits y).toNat : Int)))
  | .or => some (.int k (k.wrap ((BitVec.ofInt k.bits x ||| BitVec.ofInt k.bits y).toNat : Int)))
  | .xor => some (.int k (k.wrap ((BitVec.ofInt k.bits x ^^^ BitVec.ofInt k.bits y).toNat : Int)))
  | .andNot => some (.int k (k.wrap ((BitVec.ofInt k.bits x &&& ~~~ BitVec.ofInt k.bits y).toNat : Int)))
  | .eql => some (.bool (x == y))
  | .neq => some (.bool (x != y))
  | .lss => some (.bool (x < y))
  | .leq => some (.bool (x ≤ y))
  | .gtr => some (.bool (x > y))
  | .geq => some (.bool (x ≥ y))
  | _ => none
def shiftA (op : BinOp) (k : IntKind) (x y : Int) : Option AV :=
  if y < 0 then none else
  match op with
  | .shl => some (.int k (k.wrap (x * 2 ^ (min y.toNat k.bits))))
  | .shr => some (.int k (x.fdiv (2 ^ (min y.toNat k.bits))))
  | _ => none
def lessA : List UInt8 → List UInt8 → Bool
  | _, [] => false
  | [], _ :: _ => true
  | a :: x, b :: y => a < b || (a == b && lessA x y)
def strA (op : BinOp) (x y : List UInt8) : Option AV :=
  match op with
  | .add => if ((x.length + y.length : Nat) : Int) > IntKind.i64.max then none else some (.str (x ++ y))
  | .eql => some (.bool (x == y))
  | .neq => some (.bool !(x == y))
  | .lss => some (.bool (lessA x y))
  | .leq => some (.bool (lessA x y || x == y))
  | .gtr => some (.bool !(lessA x y || x == y))
  | .geq => some (.bool !(lessA x y))
  | _ => none
/-- Two cells of which it can be told whether they are alike. -/
def sameCell : AV → AV → Option Bool
  | .bool a, .bool b => some (a == b)
  | .int k a, .int k' b => if k = k' then some (a == b) else none
  | .str a, .str b => some (a == b)
  | _, _ => none
def sameCells : List AV → List AV → Option Bool
  | [], [] => some true
  | a :: x, b :: y => match sameCell a b, sameCells x y with
    | some s, some t => some (s && t)
    | _, _ => none
  | _, _ => none
/-- Do cells fit kinds (0 a whole number, 1 a bool, 2 a text)? -/
def fitsA : List Nat → List AV → Bool
  | [], [] => true
  | k :: ks, .int .. :: r => Nat.beq k 0 && fitsA ks r
  | k :: ks, .bool _ :: r => Nat.beq k 1 && fitsA ks r
  | k :: ks, .str _ :: r => Nat.beq k 2 && fitsA ks r
  | _, _ => false
/-- Is one of two the nil of its type, and is it told whether the other one is? -/
def nilA : AV → Option (Nat × Bool)
  | .ptr0 => some (0, true)
  | .ref .. => some (0, false)
  | .vref .. => some (0, false)
  | .sl0 => some (1, true)
  | .sl .. => some (1, false)
  | .rsl .. => some (1, false)
  | .map0 => some (2, true)
  | .mref .. => some (2, false)
  | .fn0 => some (3, true)
  | .fn .. => some (3, false)
  | .ifc0 => some (4, true)
  | .ifc .. => some (4, false)
  | _ => none
/-- Of what kind a type is whose values may be nil. -/
def kindA : TypeDesc → Option Nat
  | .pointer _ => some 0
  | .slice _ => some 1
  | .map .. => some 2
  | .func .. => some 3
  | _ => none
def nilEqA (d : TypeDesc) (x y : AV) : Option Bool :=
  match nilA x, nilA y with
  | some (k, a), some (k', b) => if k = k' ∧ (a || b) = true ∧ kindA d = some k then some (a && b) else none
  | _, _ => none
def eqA (P : Program) (flat : TypeId → Option (List Nat)) (t : TypeId) (x y : AV) : Option Bool :=
  match x, y with
  | .bool a, .bool b => match P.underlying t with
    | some .bool => some (a == b)
    | _ => none
  | .agg a, .agg b => match flat t with
    | some ks => if fitsA ks a = true then sameCells a b else none
    | none => none
  | x, y => match P.underlying t with
    | some d => nilEqA d x y
    | none => none
def binA (P : Program) (flat : TypeId → Option (List Nat)) (op : BinOp) (t : TypeId) (x y : AV) : Option AV :=
  match op, x, y with
  | .shl, .int k a, .int _ b => shiftA .shl k a b
  | .shr, .int k a, .int _ b => shiftA .shr k a b
  | _, .int k a, .int k' b => if k = k' then intArithA op k a b else none
  | _, .str a, .str b => strA op a b
  | .eql, x, y => (eqA P flat t x y).map AV.bool
  | .neq, x, y => (eqA P flat t x y).map fun b => AV.bool !b
  | _, _, _ => none
def unA (op : UnOp) (x : AV) : Option AV :=
  match op, x with
  | .neg, .int k n => some (.int k (k.wrap (0 - n)))
  | .xor, .int k n => some (.int k (k.wrap ((BitVec.ofInt k.bits (if k.signed then -1 else k.max) ^^^ BitVec.ofInt k.bits n).toNat : Int)))
  | .not, .bool b => some (.bool !b)
  | _, _ => none
def lenOfA : AV → Option Nat
  | .sl0 => some 0
  | .sl _ n _ => some n
  | .rsl _ _ n _ _ => some n
  | .str s => some s.length
  | _ => none
def byteCells (s : List UInt8) : List AV := s.map fun b => .int .u8 b.toNat
def toBytes : List AV → Option (List UInt8)
  | [] => some []
  | .int .u8 n :: r => (toBytes r).map (UInt8.ofNat n.toNat :: ·)
  | _ => none
def minA (x y : AV) : Option AV :=
  match x, y with
  | .int k a, .int _ b => some (.int k (if b < a then b else a))
  | _, _ => none
def maxA (x y : AV) : Option AV :=
  match x, y with
  | .int k a, .int _ b => some (.int k (if b > a then b else a))
  | _, _ => none
def foldA (f : AV → AV → Option AV) : AV → List AV → Option AV
  | x, [] => match x with
    | .int .. => some x
    | _ => none
  | x, y :: r => (f x y).bind fun z => foldA f z r
/-- A bound of a slice expression. -/
def boundA (v : AV) (most : Nat) : Option Nat :=
  match v with
  | .int _ i => if 0 ≤ i ∧ i ≤ most then some i.toNat else none
  | _ => none
def boundsA (len cap : Nat) (lo hi mx : Option AV) : Option (Nat × Nat × Nat) :=
  match (match mx with
    | some v => boundA v cap
    | none => some cap) with
  | none => none
  | some m =>
    match (match hi with
      | some v => boundA v m
      | none => if mx.isNone then some len else none) with
    | none => none
    | some h =>
      match (match lo with
        | some v => boundA v h
        | none => some 0) with
      | none => none
      | some l => some (l, h, m)
/-- The entry of a key. -/
def findA (k : AV) : List (AV × AV) → Nat → Option (Option (Nat × AV))
  | [], _ => some none
  | e :: es, i => match sameCell k e.1 with
    | some true => some (some (i, e.2))
    | some false => findA k es (i + 1)
    | none => none
def keyOk (P : Program) (t : TypeId) (v : AV) : Bool :=
  match P.underlying t, v with
  | some (.int k), .int k' _ => decide (k' = k)
  | some .string, .str _ => true
  | some .bool, .bool _ => true
  | _, _ => false

/-! Operations -/
abbrev Out := AV × WL
def pur (x : Option AV) : AM Out := match x with
  | some v => .ret (v, .none)
  | none => .fail
/-- The cells of a slice, all of its elements (a string: its bytes); whether they are free of numbered blocks. -/
def sliceCells (size n : Nat) (x : AV) (k : List AV → Bool → AM Out) : AM Out :=
  match x with
  | .sl0 => if n = 0 then k [] true else .fail
  | .sl cells m _ => if n ≤ m ∧ n * size ≤ cells.length then k (if n = m ∧ cells.length = n * size then cells else cells.take (n * size)) true else .fail
  | .rsl b off m _ ver => if n ≤ m then .info b fun i l => if ver = verA i l then .cells b off (n * size) fun cs => k cs (i.cl || cleanL cs) else .fail else .fail
  | .str s => if n ≤ s.length ∧ size = 1 then k (byteCells (s.take n)) true else .fail
  | _ => .fail
def loadA (P : Program) (t : TypeId) (a : AV) : AM Out :=
  match isAggA P t, szOf P t with
  | some true, some n => match a with
    | .ref b off ver => .info b fun i l => if ver = verA i l then .cells b off n fun cs => .ret (.agg cs, .none) else .fail
    | .vref cells off => if off + n ≤ cells.length then .ret (.agg ((cells.drop off).take n), .none) else .fail
    | _ => .fail
  | some false, some _ => match a with
    | .ref b off ver => .info b fun i l => if ver = verA i l then .cell b off fun v => .ret (v, .none) else .fail
    | .vref cells off => pur cells[off]?
    | _ => .fail
  | _, _ => .fail
def storeA (P : Program) (t : TypeId) (a v : AV) : AM Out :=
  match a, v.toCells, szOf P t with
  | .ref b off ver, some vs, some n =>
    if vs.length = n ∧ oneL vs = true then
      .info b fun i l => if ver = verA i l ∧ i.wr = true ∧ off + n ≤ l ∧ (i.cl = false ∨ cleanL vs = true) then .ret (.tup [], .put b off vs) else .fail
    else .fail
  | _, _, _ => .fail
def addrA (a : AV) (off : Nat) : Option AV :=
  match a with
  | .ref b o ver => some (.ref b (o + off) ver)
  | .vref c o => some (.vref c (o + off))
  | _ => none
def fieldAddrA (P : Program) (s : TypeId) (a : AV) (f : Nat) : Option AV :=
  match P.underlying s with
  | some (.struct fs) => match fs[f]? with
    | some x => match szOf P x.type with
      | some n => if n = 0 then none else addrA a x.offset
      | none => none
    | none => none
  | _ => none
def fieldA (P : Program) (s : TypeId) (x : AV) (f : Nat) : Option AV :=
  match P.underlying s, x with
  | some (.struct fs), .agg cs => match fs[f]? with
    | some y => partA P y.type cs y.offset
    | none => none
  | _, _ => none
def indexAddrA (P : Program) (t : TypeId) (x ix : AV) : Option AV :=
  match ix, P.underlying t with
  | .int _ i, some (.array len e) => match szOf P e with
    | some n => if 0 ≤ i ∧ i < len then addrA x (i.toNat * n) else none
    | none => none
  | .int _ i, some (.slice e) => match szOf P e with
    | some n => match x with
      | .sl cells m _ => if 0 ≤ i ∧ i < m then some (.vref cells (i.toNat * n)) else none
      | .rsl b off m _ ver => if 0 ≤ i ∧ i < m then some (.ref b (off + i.toNat * n) ver) else none
      | _ => none
    | none => none
  | _, _ => none
def indexA (P : Program) (t : TypeId) (x ix : AV) : Option AV :=
  match ix, P.underlying t, x with
  | .int _ i, some (.array len e), .agg cs => match szOf P e with
    | some n => if 0 ≤ i ∧ i < len then partA P e cs (i.toNat * n) else none
    | none => none
  | .int _ i, some .string, .str s => if 0 ≤ i then match s[i.toNat]? with
    | some b => some (.int .u8 b.toNat)
    | none => none else none
  | _, _, _ => none
/-- Is the capacity of a part of a slice its length? -/
def tightS (mx : Option AV) (tight : Bool) (h len : Nat) : Bool :=
  match mx with
  | some (.int _ i) => decide (i.toNat = h)
  | some _ => false
  | none => tight && decide (h = len)
/-- The capacity of a part of a slice. -/
def capS (mx : Option AV) (cap : Option Nat) (l m : Nat) : Option Nat :=
  match mx, cap with
  | some _, _ => some (m - l)
  | none, some c => some (c - l)
  | none, none => none
def sliceA (P : Program) (t : TypeId) (x : AV) (lo hi mx : Option AV) : AM Out :=
  match P.underlying t, x with
  | some .string, .str s => match mx with
    | some _ => .fail
    | none => match boundsA s.length s.length lo hi none with
      | some (l, h, _) => .ret (.str ((s.take h).drop l), .none)
      | none => .fail
  | some (.slice e), x => match szOf P e, x with
    | some _, .sl0 => match boundsA 0 0 lo hi mx with
      | some _ => .ret (.sl0, .none)
      | none => .fail
    | some n, .sl cells len tight => match boundsA len len lo hi mx with
      | some (l, h, _) => if h * n ≤ cells.length then .ret (.sl (if l = 0 ∧ h = len ∧ cells.length = h * n then cells else ((cells.take (h * n)).drop (l * n))) (h - l) (tightS mx tight h len), .none) else .fail
      | none => .fail
    | some n, .rsl b off len cap ver => match boundsA len (cap.getD len) lo hi mx with
        | some (l, h, m) => match capS mx cap l m with
          | some c => .ret (.rsl b (off + l * n) (h - l) (some c) ver, .none)
          | none => .info b fun i _ => if i.sz = n then .ret (.rsl b (off + l * n) (h - l) none ver, .none) else .fail
        | none => .fail
    | _, _ => .fail
  | some (.array n e), x => match szOf P e, x with
    | some sz, .ref b off ver => match boundsA n n lo hi mx with
      | some (l, h, m) => .ret (.rsl b (off + l * sz) (h - l) (some (m - l)) ver, .none)
      | none => .fail
    | some sz, .vref cells off => match boundsA n n lo hi mx with
      | some (l, h, m) => if off + h * sz ≤ cells.length then .ret (.sl ((cells.drop (off + l * sz)).take ((h - l) * sz)) (h - l) (decide (m = h)), .none) else .fail
      | none => .fail
    | _, _ => .fail
  | _, _ => .fail
def convertA (P : Program) (nid : Nat) (src dst : TypeId) (x : AV) : AM Out :=
  match P.underlying src, P.underlying dst, x with
  | some _, some (.int k), .int _ n => .ret (.int k (k.wrap n), .none)
  | some .string, some .string, .str s => .ret (.str s, .none)
  | some (.slice _), some (.slice e), .rsl b off n cap ver => match P.underlying e with
    | some (.int .u8) => if src = dst then .info b fun i l => if i.wr = true ∧ ver = verA i l then .ret (.rsl b off n cap ver, .none) else .fail else .fail
    | _ => .fail
  | some _, some (.slice e), .str s => match P.underlying e with
    | some (.int .u8) => .ret (.rsl nid 0 s.length none (s.length + 1), .new (.cells (byteCells s) ⟨true, 1, true, true⟩))
    | _ => .fail
  | some (.slice e), some .string, x => match P.underlying e with
    | some (.int .u8) => match x with
      | .str _ => .fail
      | x => match lenOfA x with
        | some n => sliceCells 1 n x fun cs _ => match toBytes cs with
          | some s => .ret (.str s, .none)
          | none => .fail
        | none => .fail
    | _ => .fail
  | _, _, _ => .fail
def makeSliceA (P : Program) (nid : Nat) (t : TypeId) (len cap : AV) : AM Out :=
  match P.underlying t, len, cap with
  | some (.slice e), .int _ l, .int _ c => match szOf P e, bytesA P e, zeroCellsA P e with
    | some sz, some by_, some z =>
      if 0 ≤ l ∧ l ≤ c ∧ c ≤ 140737488355328 ∧ by_ * c ≤ 140737488355328 ∧ z.length = sz ∧ 0 < sz ∧ oneL z = true then
        .ret (.rsl nid 0 l.toNat (some c.toNat) 0, .new (.cells (repCells c.toNat z) ⟨cleanL z && plainL z, sz, false, true⟩))
      else .fail
    | _, _, _ => .fail
  | _, _, _ => .fail
/-- The cells that an append adds: of a slice, a string; of so many noughts. -/
def newCells (P : Program) (e sz : Nat) (u : Option TypeId) (x : AV) (k : Nat → List AV → Bool → AM Out) : AM Out :=
  match u with
  | none => match lenOfA x with
    | some n => sliceCells sz n x fun new ncl => k n new ncl
    | none => .fail
  | some u => match P.underlying u with
    | none => .fail
    | some (.int _) => match x, zeroCellsA P e with
      | .int _ l, some z => if 0 ≤ l ∧ l ≤ 140737488355328 ∧ z.length = sz ∧ oneL z = true then k l.toNat (repCells l.toNat z) (cleanL z) else .fail
      | _, _ => .fail
    | some _ => match lenOfA x with
      | some n => sliceCells sz n x fun new ncl => k n new ncl
      | none => .fail
def appendA (P : Program) (nid : Nat) (t : TypeId) (u : Option TypeId) (s x : AV) : AM Out :=
  match P.underlying t with
  | some (.slice e) => match szOf P e, bytesA P e, zeroCellsA P e with
    | some sz, some by_, some zc =>
      newCells P e sz u x fun n new ncl =>
        if (lenOfA s).getD 0 + n ≤ 140737488355328 ∧ ((lenOfA s).getD 0 + n) * by_ ≤ 140737488355328 ∧ 0 < sz ∧ zc.length = sz then
          match s with
          | .sl0 => if n = 0 then .ret (.sl0, .none) else .ret (.rsl nid 0 n none (new.length + 1), .new (.cells new ⟨ncl && plainL zc, sz, true, true⟩))
          | .sl cells m tight => if n = 0 then .ret (.sl cells m tight, .none) else
            if tight = true ∧ cells.length = m * sz then .ret (.rsl nid 0 (m + n) none ((cells ++ new).length + 1), .new (.cells (cells ++ new) ⟨ncl && plainL zc, sz, true, true⟩)) else .fail
          | .rsl b off m (some c) ver => .info b fun i l => if ver = verA i l then
              if m + n ≤ c then
                if i.wr = true ∧ off + (m + n) * sz ≤ l ∧ (i.cl = false ∨ ncl = true) then .ret (.rsl b off (m + n) (some c) ver, .put b (off + m * sz) new) else .fail
              else .cells b off (m * sz) fun old => .ret (.rsl nid 0 (m + n) none ((old ++ new).length + 1), .new (.cells (old ++ new) ⟨(i.cl || cleanL old) && (ncl && plainL zc), sz, true, true⟩))
            else .fail
          | .rsl b off m none ver => .blk b fun y => match y with
            | .cells c i => if ver = c.length + 1 ∧ i.opn = true ∧ i.wr = true ∧ i.sz = sz ∧ (i.cl = false ∨ ncl = true) then
                if off = 0 ∧ c.length = m * sz then .ret (.rsl b 0 (m + n) none ((c ++ new).length + 1), .blk b (.cells (c ++ new) i))
                else if off + (m + n) * sz ≤ c.length then .ret (.rsl b off (m + n) none ver, .put b (off + m * sz) new) else .fail
              else .fail
            | _ => .fail
          | _ => .fail
        else .fail
    | _, _, _ => .fail
  | _ => .fail
def copyA (P : Program) (t : TypeId) (d x : AV) : AM Out :=
  match P.underlying t, d with
  | some (.slice e), .sl0 => match szOf P e, lenOfA x with
    | some _, some _ => .ret (.int .i64 0, .none)
    | _, _ => .fail
  | some (.slice e), .rsl b off m _ ver => match szOf P e, lenOfA x with
    | some sz, some n =>
      sliceCells sz (min n m) x fun cs ncl => .info b fun i l =>
        if ver = verA i l ∧ i.wr = true ∧ off + min n m * sz ≤ l ∧ (i.cl = false ∨ ncl = true) then .ret (.int .i64 (min n m : Nat), .put b off cs) else .fail
    | _, _ => .fail
  | some (.slice e), .sl _ m _ => match szOf P e, lenOfA x with
    | some _, some n => if n = 0 ∨ m = 0 then .ret (.int .i64 0, .none) else .fail
    | _, _ => .fail
  | _, _ => .fail
def lenA (P : Program) (t : TypeId) (x : AV) : AM Out :=
  match P.underlying t, x with
  | some .string, .str s => .ret (.int .i64 s.length, .none)
  | some (.array n _), _ => .ret (.int .i64 n, .none)
  | some (.slice _), x => match x with
    | .str _ => .fail
    | x => match lenOfA x with
      | some n => .ret (.int .i64 n, .none)
      | none => .fail
  | some (.map ..), .map0 => .ret (.int .i64 0, .none)
  | some (.map ..), .mref b => .blk b fun y => match y with
    | .map es => .ret (.int .i64 es.length, .none)
    | _ => .fail
  | _, _ => .fail
def capA (P : Program) (t : TypeId) (x : AV) : AM Out :=
  match P.underlying t, x with
  | some (.slice _), .sl0 => .ret (.int .i64 0, .none)
  | some (.slice _), .sl _ n true => .ret (.int .i64 n, .none)
  | some (.slice _), .rsl _ _ _ (some c) _ => .ret (.int .i64 c, .none)
  | _, _ => .fail
def lookupA (P : Program) (t : TypeId) (m k : AV) (ok : Bool) : AM Out :=
  match P.underlying t with
  | some (.map kt et) => match zeroA P et with
    | some z => if keyOk P kt k then
        match m with
        | .map0 => .ret (if ok then .tup [z, .bool false] else z, .none)
        | .mref b => .blk b fun y => match y with
          | .map es => match findA k es 0 with
            | some (some (_, v)) => .ret (if ok then .tup [v, .bool true] else v, .none)
            | some none => .ret (if ok then .tup [z, .bool false] else z, .none)
            | none => .fail
          | _ => .fail
        | _ => .fail
      else .fail
    | none => .fail
  | _ => .fail
def mapSetA (es : List (AV × AV)) (k v : AV) : Option (List (AV × AV)) :=
  match findA k es 0 with
  | some (some (i, _)) => some (es.modify i fun e => (e.1, v))
  | some none => some (es ++ [(k, v)])
  | none => none
def mapUpdateA (P : Program) (t : TypeId) (m k v : AV) : AM Out :=
  match P.underlying t, m with
  | some (.map kt _), .mref b => if keyOk P kt k then
      .blk b fun y => match y with
        | .map es => match mapSetA es k v with
          | some es' => .ret (.tup [], .blk b (.map es'))
          | none => .fail
        | _ => .fail
    else .fail
  | _, _ => .fail
def deleteA (P : Program) (t : TypeId) (m k : AV) : AM Out :=
  match P.underlying t, m with
  | some (.map kt _), .map0 => if keyOk P kt k then .ret (.tup [], .none) else .fail
  | some (.map kt _), .mref b => if keyOk P kt k then
      .blk b fun y => match y with
        | .map es => match findA k es 0 with
          | some (some (i, _)) => .ret (.tup [], .blk b (.map (es.eraseIdx i)))
          | some none => .ret (.tup [], .none)
          | none => .fail
        | _ => .fail
    else .fail
  | _, _ => .fail
def builtinA (P : Program) (nid : Nat) (b : Builtin) (ts : List TypeId) (args : List AV) : AM Out :=
  match b, ts, args with
  | .append, t :: r, [s, x] => appendA P nid t r.head? s x
  | .copy, t :: _, [d, x] => copyA P t d x
  | .len, t :: _, [x] => lenA P t x
  | .cap, t :: _, [x] => capA P t x
  | .min, _, x :: r => pur (foldA minA x r)
  | .max, _, x :: r => pur (foldA maxA x r)
  | .delete, t :: _, [m, k] => deleteA P t m k
  | _, _, _ => .fail
def evOp (P : Program) (flat : TypeId → Option (List Nat)) (nid : Nat) (o : Op) (ρ : Operand → AV) : AM Out :=
  match o with
  | .move x => .ret (ρ x, .none)
  | .assign x => .ret (ρ x, .none)
  | .pick c a b => match ρ c with
    | .bool t => .ret (pickA t (ρ a) (ρ b), .none)
    | _ => .fail
  | .alloc e => match zeroCellsA P e with
    | some z => if oneL z = true then .ret (.ref nid 0 0, .new (.cells z ⟨false, 0, false, true⟩)) else .fail
    | none => .fail
  | .box _ x => match (ρ x).toCells with
    | some c => if oneL c = true then .ret (.ref nid 0 0, .new (.cells c ⟨false, 0, false, true⟩)) else .fail
    | none => .fail
  | .build t parts => match zeroCellsA P t, P.underlying t with
    | some z, some (.struct fs) => match fs.toList.mapM (fun f => (P.info? f.type).map fun i => (f.offset, i.size)) with
      | some places => pur ((fillA (places.toArray[·]?) z (parts.toList.map fun p => (p.1, ρ p.2))).map AV.agg)
      | none => .fail
    | some z, some (.array _ e) => match szOf P e with
      | some n => pur ((fillA (fun i => some (i * n, n)) z (parts.toList.map fun p => (p.1, ρ p.2))).map AV.agg)
      | none => .fail
    | _, _ => .fail
  | .buildSlice t len parts => match P.underlying t with
    | some (.slice e) => match szOf P e, zeroCellsA P e with
      | some n, some z => if len * n ≤ 16777216 ∧ z.length = n then
          match fillA (fun i => some (i * n, n)) (repCells len z) (parts.toList.map fun p => (p.1, ρ p.2)) with
          | some c => if oneL c = true then .ret (.rsl nid 0 len (some len) 0, .new (.cells c ⟨false, n, false, true⟩)) else .fail
          | none => .fail
        else .fail
      | _, _ => .fail
    | _ => .fail
  | .load t a => loadA P t (ρ a)
  | .store t a v => storeA P t (ρ a) (ρ v)
  | .nilCheck x => match ρ x with
    | .ref b o v => .ret (.ref b o v, .none)
    | .vref c o => .ret (.vref c o, .none)
    | .fn f a b => .ret (.fn f a b, .none)
    | _ => .fail
  | .binOp op t x y _ => pur (binA P flat op t (ρ x) (ρ y))
  | .unOp op _ x => pur (unA op (ρ x))
  | .convert s d x => convertA P nid s d (ρ x)
  | .sliceToArrayPointer t x => match P.underlying t, ρ x with
    | some (.array n _), .sl cells m _ => if n ≤ m ∧ 0 < m then .ret (.vref cells 0, .none) else .fail
    | some (.array n _), .rsl b off m _ ver => if n ≤ m ∧ 0 < m then .ret (.ref b off ver, .none) else .fail
    | _, _ => .fail
  | .makeInterface t x => match P.underlying t with
    | some (.interface _) => .fail
    | some _ => .ret (.ifc t (ρ x), .none)
    | none => .fail
  | .makeFunc (.func f) a b => .ret (.fn f (a.toList.map ρ) (b.toList.map ρ), .none)
  | .makeMap t r => match r with
    | none => .ret (.mref nid, .new (.map []))
    | some x => match P.underlying t, ρ x with
      | some (.map ..), .int .. => .ret (.mref nid, .new (.map []))
      | _, _ => .fail
  | .makeSlice t l c => makeSliceA P nid t (ρ l) (ρ c)
  | .slice t x lo hi mx => sliceA P t (ρ x) (lo.map ρ) (hi.map ρ) (mx.map ρ)
  | .fieldAddr s x f => pur (fieldAddrA P s (ρ x) f)
  | .field s x f => pur (fieldA P s (ρ x) f)
  | .indexAddr t x i => pur (indexAddrA P t (ρ x) (ρ i))
  | .index t x i => pur (indexA P t (ρ x) (ρ i))
  | .lookup t m k ok => lookupA P t (ρ m) (ρ k) ok
  | .mapUpdate t m k v => mapUpdateA P t (ρ m) (ρ k) (ρ v)
  | .insert t m k v => mapUpdateA P t (ρ m) (ρ k) (ρ v)
  | .extract t i => match ρ t with
    | .tup vs => pur vs[i]?
    | _ => .fail
  | .call c => match c.callee with
    | .builtin b => builtinA P nid b c.argTypes.toList (c.args.toList.map ρ)
    | _ => .fail
  | _ => .fail
end Go.Proofs.Ytnkeijebkpjdgaa.Ab
/- The engine, second text: the abstract machine's runs: regions, code, calls. -/
namespace Go.Proofs.Ytnkeijebkpjdgaa.Ab
open Go

/-- What a run is over: the program; the functions that may be entered; the types whose values are compared cell by cell; the functions that hand back blocks that may be written; the slots that matter at a loop's head; what functions are known to hand back. -/
structure Env where
  P : Program
  ok : FuncId → Bool
  flat : TypeId → Option (List Nat)
  raw : FuncId → FuncId → Bool
  keep : FuncId → Nat → Option (List Nat)
  sum : FuncId → List AV → Option AV
  fuel : Nat
  lend : FuncId → Bool := fun _ => false

inductive AX where
  | normal
  | exit (id : Nat)
  | goto (l : Nat)
  | ret
  | panic (v : AV)
inductive AR where
  | ret (v : AV)
  | panic (v : AV)
structure ST where
  tmps : RG
  h : H

def opnd (tmps : RG) : Operand → AV
  | .tmp t => tmps.get t
  | .const v => AV.ofValue v
  | .global _ => .hole
  | .func f => .fn f [] []
def putT (tmps : RG) (dst : Option Tmp) (v : AV) : RG :=
  match dst with
  | some d => tmps.put d v
  | none => tmps
def wantedA (ops : Array Oper) (tmps : RG) (o : Oper) : Option Bool :=
  match o.guard with
  | none => some true
  | some (j, want) => match (ops[j]?).bind (·.dst) with
    | some d => match tmps.get d with
      | .bool b => some (b == want)
      | .hole => none
      | _ => some false
    | none => some false

/-- The heap behind an operation; nid: where a new block goes. -/
def H.app (h : H) (nid : Nat) : WL → H
  | .none => h
  | .new b => if nid = h.bs.length then { h with bs := h.bs ++ [b] } else { bs := h.bs.set nid b, esc := if b.top ≤ nid + 1 then h.esc else (nid, b.top) :: h.esc }
  | .put b off vs => match h.bs[b]? with
    | some (.cells c i) => { bs := h.bs.set b (.cells (splice c off vs) i), esc := if topL vs ≤ b + 1 then h.esc else (b, topL vs) :: h.esc }
    | _ => h
  | .blk b x => { bs := h.bs.set b x, esc := match x with
    | .cells _ i => if i.cl then h.esc else (b, h.bs.length) :: h.esc
    | .dead => h.esc
    | .void => h.esc
    | .map es => if (AB.map es).top ≤ b + 1 then h.esc else (b, h.bs.length) :: h.esc
    | _ => (b, h.bs.length) :: h.esc }

/-! Slices and variables that nobody writes any more become values. -/
/-- A block from now on unwritten; its cells, themselves sealed by deep. -/
def sealB (deep : List AB → List AV → List AV × List AB) (bs : List AB) (b ver : Nat) : Option (List AV × BI × List AB) :=
  match bs[b]? with
  | some (.cells c i) => if ver = verA i c.length then
      if i.wr = false then some (c, i, bs)
      else if i.cl then some (c, i, bs.set b (.cells c { i with wr := false }))
      else
        match (deep bs c).2[b]? with
        | some (.cells d j) => if (cleanL (deep bs c).1 && (deep bs c).1.length == c.length && d.length == c.length && j.wr && j.opn == i.opn && j.sz == i.sz) = true then
            some ((deep bs c).1, i, (deep bs c).2.set b (.cells (deep bs c).1 { j with cl := true, wr := false })) else none
        | _ => none
    else none
  | _ => none
def tightA : Option Nat → Nat → Bool
  | some m, n => decide (m = n)
  | none, _ => false
mutual
def sealV (deep : List AB → List AV → List AV × List AB) (bs : List AB) : AV → AV × List AB
  | .rsl b off n cap ver => match sealB deep bs b ver with
    | some (c, i, bs') => if off + n * i.sz ≤ c.length ∧ 0 < i.sz then
        (.sl (if off = 0 ∧ c.length = n * i.sz then c else (c.drop off).take (n * i.sz)) n (tightA cap n), bs')
      else (.rsl b off n cap ver, bs)
    | none => (.rsl b off n cap ver, bs)
  | .ref b off ver => match sealB deep bs b ver with
    | some (c, _, bs') => (.vref c off, bs')
    | none => (.ref b off ver, bs)
  | .fn f x y => let (x', bs1) := sealVL deep bs x; let (y', bs2) := sealVL deep bs1 y; (.fn f x' y', bs2)
  | .ifc t v => let (v', bs1) := sealV deep bs v; (.ifc t v', bs1)
  | .agg c => let (c', bs1) := sealVL deep bs c; (.agg c', bs1)
  | .tup c => let (c', bs1) := sealVL deep bs c; (.tup c', bs1)
  | v => (v, bs)
def sealVL (deep : List AB → List AV → List AV × List AB) (bs : List AB) : List AV → List AV × List AB
  | [] => ([], bs)
  | v :: r => let (v', bs1) := sealV deep bs v; let (r', bs2) := sealVL deep bs1 r; (v' :: r', bs2)
end
def sealL : Nat → List AB → List AV → List AV × List AB
  | 0, bs, l => (l, bs)
  | n + 1, bs, l => sealVL (sealL n) bs l
def AV.seal (bs : List AB) (v : AV) : AV × List AB := sealV (sealL 4) bs v
/-- An argument: a slice is handed over as a value. -/
def argA (bs : List AB) : AV → AV × List AB
  | .rsl b off n cap ver => (AV.rsl b off n cap ver).seal bs
  | v => (v, bs)
def argsA (bs : List AB) : List AV → List AV × List AB
  | [] => ([], bs)
  | v :: r => let (v', bs1) := argA bs v; let (r', bs2) := argsA bs1 r; (v' :: r', bs2)

/-! What is lent: for as long as a call goes that hands back nothing that names memory, rows that may be written are values. -/
def lentC (deep : List AV → List AV) (c : List AV) (i : BI) : Option (List AV) :=
  if i.cl then some c else if (cleanL (deep c) && (deep c).length == c.length) = true then some (deep c) else none
mutual
def lendV (deep : List AV → List AV) (bs : List AB) : AV → AV
  | .rsl b off n cap ver => match bs[b]? with
    | some (.cells c i) => if ver = verA i c.length ∧ off + n * i.sz ≤ c.length ∧ 0 < i.sz then
        match lentC deep c i with
        | some d => .sl (if off = 0 ∧ c.length = n * i.sz then d else (d.drop off).take (n * i.sz)) n (tightA cap n)
        | none => .rsl b off n cap ver
      else .rsl b off n cap ver
    | _ => .rsl b off n cap ver
  | .ref b off ver => match bs[b]? with
    | some (.cells c i) => if ver = verA i c.length then
        match lentC deep c i with
        | some d => .vref d off
        | none => .ref b off ver
      else .ref b off ver
    | _ => .ref b off ver
  | .fn f x y => .fn f (lendVL deep bs x) (lendVL deep bs y)
  | .ifc t v => .ifc t (lendV deep bs v)
  | .agg c => .agg (lendVL deep bs c)
  | .tup c => .tup (lendVL deep bs c)
  | v => v
def lendVL (deep : List AV → List AV) (bs : List AB) : List AV → List AV
  | [] => []
  | v :: r => lendV deep bs v :: lendVL deep bs r
end
def lendL : Nat → List AB → List AV → List AV
  | 0, _, l => l
  | n + 1, bs, l => lendVL (lendL n bs) bs l
mutual
/-- A value that names no memory. -/
def AV.flat : AV → Bool
  | .bool _ => true
  | .int .. => true
  | .str _ => true
  | .ptr0 => true
  | .sl0 => true
  | .map0 => true
  | .fn0 => true
  | .ifc0 => true
  | .ifc _ v => v.flat
  | .agg c => flatAll c
  | .tup c => flatAll c
  | _ => false
def flatAll : List AV → Bool
  | [] => true
  | v :: r => v.flat && flatAll r
end

/-- May the blocks from n on go, as far as the older blocks are concerned? -/
def escOk (n : Nat) (esc : List (Nat × Nat)) : Bool := esc.all fun e => decide (n ≤ e.1 ∨ e.2 ≤ n)
def escCut (n : Nat) (esc : List (Nat × Nat)) : List (Nat × Nat) := esc.filter fun e => decide (e.1 < n)
def H.cut (h : H) (n : Nat) : H := { bs := h.bs.take n, esc := escCut n h.esc }
def RG.keep (r : RG) : List Nat → RG
  | [] => RG.empty r.n
  | k :: ks => (r.keep ks).put k (r.get k)
def RG.topOf (r : RG) : List Nat → Nat
  | [] => 0
  | k :: ks => max (r.get k).top (r.topOf ks)
/-- A state at a loop's head: what the round before made, and does not matter, is forgotten. -/
def ST.norm (ks : Option (List Nat)) (n : Nat) (s : ST) : ST :=
  match ks with
  | none => s
  | some ks => if s.h.bs.length ≤ max n (s.tmps.topOf ks) then { s with tmps := s.tmps.keep ks }
    else if escOk (max n (s.tmps.topOf ks)) s.h.esc then { tmps := s.tmps.keep ks, h := s.h.cut (max n (s.tmps.topOf ks)) }
    else { s with tmps := s.tmps.keep ks }
/-- The blocks from n on go, if it may be. -/
def H.trim (h : H) (n : Nat) : H := if h.bs.length ≤ n then h else if escOk n h.esc then h.cut n else h

def usesT (ops : Array Oper) (o : Oper) : List Tmp :=
  (o.op.operands.toList.filterMap fun | .tmp t => some t | _ => none) ++ (match o.guard with
    | some (j, _) => ((ops[j]?).bind (·.dst)).toList
    | none => [])
abbrev CallF := FuncId → AV → List AV → H → Option (AR × H)

/-- One operation, as it comes. -/
inductive OR where
  | ok (s : ST)
  | panic (v : AV) (s : ST)
  | no
def evOper (E : Env) (call : CallF) (fid : FuncId) (o : Oper) (s : ST) : OR :=
  match o.op with
  | .call { callee := .value f, args, .. } => match call fid (opnd s.tmps f) (args.toList.map (opnd s.tmps)) s.h with
    | some (.ret v, h') => .ok { tmps := putT s.tmps o.dst v, h := h' }
    | some (.panic v, h') => .panic v { s with h := h' }
    | none => .no
  | .panic x => match opnd s.tmps x with
    | .ifc t v => .panic (.ifc t v) s
    | _ => .no
  | op => match (evOp E.P E.flat s.h.bs.length op (opnd s.tmps)).run s.h.bs with
    | some (v, w) => .ok { tmps := putT s.tmps o.dst v, h := s.h.app s.h.bs.length w }
    | none => .no
def evOps (E : Env) (call : CallF) (fid : FuncId) (ops : Array Oper) : List Oper → ST → Option (AX × ST)
  | [], s => some (.normal, s)
  | o :: r, s => match wantedA ops s.tmps o with
    | some true => match evOper E call fid o s with
      | .ok s' => evOps E call fid ops r s'
      | .panic v s' => some (.panic v, s')
      | .no => none
    | some false => evOps E call fid ops r { s with tmps := putT s.tmps o.dst (.tup []) }
    | none => none

/-! A region that draws its order: in the order of the text, each new block at a place of its own; what two operations do between which no order is told must not meet. -/
inductive WR where
  | w (x : WL)
  | heap (x : H)
structure Rec where
  reads : List RL
  v : AV
  w : WR
/-- What a call does: one of arguments that name no block, on a heap of its own. -/
def recCall (E : Env) (call : CallF) (fid : FuncId) (f : AV) (as_ : List AV) (h : H) : Option Rec :=
  match f with
  | .fn g x y => if cleanL (x ++ as_ ++ y) && !E.raw fid g then match call fid (.fn g x y) as_ ⟨[], []⟩ with
      | some (.ret v, _) => if v.clean then some ⟨[], v, .w .none⟩ else none
      | _ => none
    else match call fid (.fn g x y) as_ h with
      | some (.ret v, h') => some ⟨[.all], v, .heap h'⟩
      | _ => none
  | f' => match call fid f' as_ h with
    | some (.ret v, h') => some ⟨[.all], v, .heap h'⟩
    | _ => none
def recOf (E : Env) (call : CallF) (fid : FuncId) (ops : Array Oper) (nid : Nat) (o : Oper) (s : ST) : Option Rec :=
  match wantedA ops s.tmps o with
  | some false => some ⟨[], .tup [], .w .none⟩
  | none => none
  | some true => match o.op with
    | .call { callee := .value f, args, .. } => recCall E call fid (opnd s.tmps f) (args.toList.map (opnd s.tmps)) s.h
    | .panic _ => none
    | op => match s.h.bs[nid]? with
      | some .void => match (evOp E.P E.flat nid op (opnd s.tmps)).run s.h.bs with
        | some (v, w) => some ⟨.blk nid :: (evOp E.P E.flat nid op (opnd s.tmps)).reads s.h.bs, v, .w w⟩
        | none => none
      | _ => none
def WR.app (w : WR) (nid : Nat) (h : H) : H :=
  match w with
  | .w w => h.app nid w
  | .heap h' => h'
def Rec.app (r : Rec) (nid : Nat) (dst : Option Tmp) (s : ST) : ST := { tmps := putT s.tmps dst r.v, h := r.w.app nid s.h }
/-- The records of the operations, in the text's order; with each the heap ahead of it. -/
def drawRun (E : Env) (call : CallF) (fid : FuncId) (ops : Array Oper) (base : Nat) : List (Nat × Oper) → ST → Option (List (Nat × Rec × H) × ST)
  | [], s => some ([], s)
  | (i, o) :: r, s => match recOf E call fid ops (base + i) o s with
    | some c => match drawRun E call fid ops base r (c.app (base + i) o.dst s) with
      | some (l, s') => some ((i, c, s.h) :: l, s')
      | none => none
    | none => none

mutual
def AV.same : AV → AV → Bool
  | .bool a, .bool b => a == b
  | .int k a, .int k' b => k == k' && a == b
  | .str a, .str b => a == b
  | .ptr0, .ptr0 => true
  | .sl0, .sl0 => true
  | .map0, .map0 => true
  | .fn0, .fn0 => true
  | .ifc0, .ifc0 => true
  | .ref a b c, .ref d e f => a == d && b == e && c == f
  | .rsl a b c d e, .rsl f g h i j => a == f && b == g && c == h && d == i && e == j
  | .mref a, .mref b => a == b
  | .yc a, .yc b => a == b
  | .vref a b, .vref c d => sameL a c && b == d
  | .sl a b c, .sl d e f => sameL a d && b == e && c == f
  | .fn a b c, .fn d e f => a == d && sameL b e && sameL c f
  | .ifc a b, .ifc c d => a == c && b.same d
  | .agg a, .agg b => sameL a b
  | .tup a, .tup b => sameL a b
  | _, _ => false
def sameL : List AV → List AV → Bool
  | [], [] => true
  | a :: x, b :: y => a.same b && sameL x y
  | _, _ => false
end
/-- Are the cells of a block that are read the same in both heaps? -/
def sameInfo (i j : BI) : Bool := i.cl == j.cl && i.sz == j.sz && i.opn == j.opn && i.wr == j.wr
/-- Does a write leave what is read as it is? (The heap ahead of the write: h.) -/
def apartW (nid : Nat) (h : H) (w : WR) : RL → Bool
  | .cells b off n => match w with
    | .w .none => true
    | .w (.new _) => nid != b
    | .w (.put b' off' vs) => b != b' || decide (off + n ≤ off' ∨ off' + vs.length ≤ off)
    | .w (.blk b' _) => b != b'
    | .heap h' => match h.bs[b]?, h'.bs[b]? with
      | some (.cells c i), some (.cells c' i') => c.length == c'.length && sameInfo i i' && sameL ((c.drop off).take n) ((c'.drop off).take n)
      | _, _ => false
  | .info b => match w with
    | .w .none => true
    | .w (.new _) => nid != b
    | .w (.put ..) => true
    | .w (.blk b' _) => b != b'
    | .heap h' => match h.bs[b]?, h'.bs[b]? with
      | some (.cells c i), some (.cells c' i') => c.length == c'.length && sameInfo i i'
      | _, _ => false
  | .blk b => match w with
    | .w .none => true
    | .w (.new _) => nid != b
    | .w (.put b' _ _) => b != b'
    | .w (.blk b' _) => b != b'
    | .heap h' => match h.bs[b]?, h'.bs[b]? with
      | some .void, some .void => true
      | _, _ => false
  | .all => match w with
    | .w .none => true
    | _ => false
/-- Does a write add to the book of who names whom? -/
def WL.books (nid : Nat) : WL → Bool
  | .none => false
  | .new b => !decide (b.top ≤ nid + 1)
  | .put b _ vs => !decide (topL vs ≤ b + 1)
  | .blk _ (.cells _ i) => !i.cl
  | .blk _ _ => true
def apartWW (nid nid' : Nat) (a b : WR) : Bool :=
  match a, b with
  | .w .none, _ => true
  | _, .w .none => true
  | .w a, .w b => !(a.books nid && b.books nid') && match a, b with
    | .new _, .new _ => nid != nid'
    | .new _, .put b _ _ => nid != b
    | .new _, .blk b _ => nid != b
    | .put b _ _, .new _ => nid' != b
    | .blk b _, .new _ => nid' != b
    | .put b off vs, .put b' off' vs' => b != b' || decide (off + vs.length ≤ off' ∨ off' + vs'.length ≤ off)
    | .put b _ _, .blk b' _ => b != b'
    | .blk b _, .put b' _ _ => b != b'
    | .blk b _, .blk b' _ => b != b'
    | _, _ => false
  | _, _ => false
/-- Two operations that name no slot of each other's. -/
def apartT (ops : Array Oper) (o p : Oper) : Bool :=
  match o.dst with
  | some d => !(usesT ops p).contains d && p.dst != some d
  | none => true
def apart2 (base : Nat) (a b : Nat × Rec × H) : Bool :=
  b.2.1.reads.all (apartW (base + a.1) a.2.2 a.2.1.w) && a.2.1.reads.all (apartW (base + b.1) b.2.2 b.2.1.w) && apartWW (base + a.1) (base + b.1) a.2.1.w b.2.1.w
/-- Of the pairs between which no order is told: none names a slot of the other's; what they do is apart. -/
def drawOk (ops : Array Oper) (base : Nat) (bef : Array Nat) : List (Nat × Rec × H) → Bool
  | [] => true
  | a :: r => (r.all fun b => (bef.getD b.1 0).testBit a.1 || (apartT ops (ops.getD a.1 default) (ops.getD b.1 default) && apartT ops (ops.getD b.1 default) (ops.getD a.1 default) && apart2 base a b)) && drawOk ops base bef r
/-- The operations' order: each is told of earlier ones alone. -/
def orderOk (ops : Array Oper) : Bool := ops.toList.zipIdx.all fun p => p.1.after.toList.all fun e => decide (e.on < p.2) || !Region.binds .any e
def evDrawn (E : Env) (call : CallF) (fid : FuncId) (ops : Array Oper) (s : ST) : Option (AX × ST) :=
  let base := s.h.bs.length
  let s0 : ST := { s with h := { s.h with bs := s.h.bs ++ List.replicate ops.size .void } }
  match drawRun E call fid ops base (ops.toList.zipIdx.map fun p => (p.2, p.1)) s0 with
  | some (l, s') => if orderOk ops && drawOk ops base (Region.before ops) l then some (.normal, s') else none
  | none => none

def evLoop (f : ST → Option (AX × ST)) (nm : ST → ST) : Nat → ST → Option (AX × ST)
  | 0, _ => none
  | n + 1, s => match f (nm s) with
    | some (.normal, s') => evLoop f nm n s'
    | r => r
/-- The number of the first region of some code. -/
def firstR : Code → Nat
  | .region id _ _ => id
  | .seq a _ => firstR a
  | .block _ b => firstR b
  | .loop b => firstR b
  | .scope b => firstR b
  | _ => 0
abbrev JumpF := Bool → FuncId → Code → ST → Option (AX × ST)
/-- Behind a jump to a label of a scope: the code from the label on, within the scope. -/
def evJumps (jmp : Code → ST → Option (AX × ST)) (body : Code) : Nat → Nat → ST → Option (AX × ST)
  | 0, _, _ => none
  | n + 1, l, s => match findLabel body l with
    | none => some (.goto l, s)
    | some rest => match jmp rest s with
      | some (.goto l', s') => evJumps jmp body n l' s'
      | r => r
/-- How a loop over a function is left. -/
def jumpA : Option Code → Option AX
  | none => some .normal
  | some .ret => some .ret
  | some (.exit id) => some (.exit id)
  | some (.goto l) => some (.goto l)
  | some _ => none
def evRange (call : CallF) (fid : FuncId) (f : Operand) (ps : Array Tmp) (assign body : Code) (s : ST) : Option (AX × ST) :=
  match opnd s.tmps f with
  | .fn g x y => match call fid (.fn g x y) [.yc s.h.bs.length] { s.h with bs := s.h.bs ++ [.loop fid s.tmps ps.toList assign body .ready none] } with
    | some (.ret _, h') => match h'.bs[s.h.bs.length]? with
      | some (.loop _ _ _ _ _ st pend) => if st = .busy then none else
        match jumpA pend with
        | some x => some (x, { s with h := H.trim { h' with bs := h'.bs.set s.h.bs.length .dead } s.h.bs.length })
        | none => none
      | _ => none
    | _ => none
  | _ => none
def evCode (E : Env) (call : CallF) (jmp : JumpF) (rd : Bool) (fid : FuncId) : Code → ST → Option (AX × ST)
  | .skip, s => some (.normal, s)
  | .region _ ops draw, s => if draw then evDrawn E call fid ops s else evOps E call fid ops ops.toList s
  | .seq a b, s => match evCode E call jmp rd fid a s with
    | some (.normal, s') => evCode E call jmp rd fid b s'
    | r => r
  | .cond c a b, s => match opnd s.tmps c with
    | .bool t => if t then evCode E call jmp rd fid a s else evCode E call jmp rd fid b s
    | _ => none
  | .block id b, s => match evCode E call jmp rd fid b s with
    | some (.exit id', s') => if id' = id then some (.normal, s') else some (.exit id', s')
    | r => r
  | .loop b, s => evLoop (evCode E call jmp rd fid b) (ST.norm (E.keep fid (firstR b)) s.h.bs.length) E.fuel s
  | .rangeFunc f ps assign body, s => if rd then none else evRange call fid f ps assign body s
  | .exit id, s => some (.exit id, s)
  | .label _, s => some (.normal, s)
  | .goto l, s => some (.goto l, s)
  | .ret, s => some (.ret, s)
  | .scope body, s => match evCode E call jmp rd fid body s with
    | some (.goto l, s') => evJumps (jmp rd fid) body E.fuel l s'
    | r => r
  | .refuse _, _ => none

/-- What a function hands back. -/
def resA (P : Program) (s : ST) : List ResultVar → Option (List AV)
  | [] => some []
  | .tmp t :: r => (resA P s r).map (s.tmps.get t :: ·)
  | .cell a t :: r => match (loadA P t (s.tmps.get a)).run s.h.bs with
    | some (v, _) => (resA P s r).map (v :: ·)
    | none => none
def asOne : List AV → AV
  | [v] => v
  | vs => .tup vs
/-- The end of a call that was entered with n blocks: what is handed back, sealed; the blocks that are its own go, if nobody names them. -/
def leaveA (raw : Bool) (n : Nat) (v : AV) (h : H) : AV × H :=
  let (v', bs') := if raw then (v, h.bs) else v.seal h.bs
  if v'.und n && escOk n h.esc then (v', { bs := bs'.take n, esc := escCut n h.esc }) else (v', { h with bs := bs' })

def evBody (E : Env) (call : CallF) (jmp : JumpF) (raw : Bool) (f : FuncId) (fn : Func) (c : Code) (args : List AV) (h : H) : Option (AR × H) :=
  if args.length ≤ fn.ntmps then match evCode E call jmp false f c { tmps := (RG.empty fn.ntmps).puts 0 args, h } with
  | some (.normal, s) => match resA E.P s fn.results.toList with
    | some vs => let (v, h') := leaveA raw h.bs.length (asOne vs) s.h; some (.ret v, h')
    | none => none
  | some (.ret, s) => match resA E.P s fn.results.toList with
    | some vs => let (v, h') := leaveA raw h.bs.length (asOne vs) s.h; some (.ret v, h')
    | none => none
  | some (.panic v, s) => let (v', h') := leaveA false h.bs.length v s.h; some (.panic v', h')
  | _ => none
  else none

/-- The end of a round: the loop's record is told how it ended. -/
def endR (b n : Nat) (st : LoopState) (p : Option Code) (h : H) : Option (AR × H) :=
  match h.bs[b]? with
  | some (.loop fid tmps ps assign body _ _) => some (.ret (.bool p.isNone), H.trim { h with bs := h.bs.set b (.loop fid tmps ps assign body st p) } n)
  | _ => none
def yieldA (E : Env) (call : CallF) (jmp : JumpF) (b : Nat) (args : List AV) (h : H) : Option (AR × H) :=
  match h.bs[b]? with
  | some (.loop fid tmps ps assign body .ready _) =>
    if args.length = ps.length then
      match evCode E call jmp true fid assign { tmps := (ps.zip args).foldl (fun t p => t.put p.1 p.2) tmps, h } with
      | some (.normal, s1) =>
        match s1.h.bs[b]? with
        | some (.loop fid1 tmps1 ps1 assign1 body1 .ready p1) =>
          match evCode E call jmp true fid body { s1 with h := { s1.h with bs := s1.h.bs.set b (.loop fid1 tmps1 ps1 assign1 body1 .busy p1) } } with
          | some (.normal, s2) => endR b h.bs.length .ready none s2.h
          | some (.ret, s2) => endR b h.bs.length .done (some .ret) s2.h
          | some (.exit id, s2) => endR b h.bs.length .done (some (.exit id)) s2.h
          | some (.goto l, s2) => endR b h.bs.length .done (some (.goto l)) s2.h
          | _ => none
        | _ => none
      | _ => none
    else none
  | _ => none

/-- A call: of a function with what it bears, of a loop's round. Arguments that name no block: on a heap of its own. -/
def stepCall0 (E : Env) (call : CallF) (jmp : JumpF) : CallF
  | from_, .fn f x y, as0, h0 =>
    let raw := E.raw from_ f
    let (as1, bs1) := if raw then (as0, h0.bs) else argsA h0.bs as0
    let h : H := { h0 with bs := bs1 }
    let args := x ++ as1 ++ y
    if E.ok f then
      match E.P.funcs[f]? with
      | none => none
      | some fn => match fn.body with
        | none => none
        | some c =>
          if cleanL args && !raw then
            match E.sum f args with
            | some v => if v.clean then some (.ret v, h) else none
            | none =>
            match evBody E call jmp false f fn c args ⟨[], []⟩ with
            | some (.ret v, _) => if v.clean then some (.ret v, h) else none
            | some (.panic v, _) => if v.clean then some (.panic v, h) else none
            | none => none
          else evBody E call jmp raw f fn c args h
    else none
  | _, .yc b, args, h => yieldA E call jmp b args h
  | _, _, _, _ => none
/-- A call; of a function that arguments are lent to, if they name blocks. -/
def stepCall (E : Env) (call : CallF) (jmp : JumpF) : CallF
  | from_, .fn f x y, as0, h0 =>
    if E.lend f && !cleanL as0 then
      if cleanL (x ++ lendL 4 h0.bs as0 ++ y) then
        match stepCall0 E call jmp from_ (.fn f x y) (lendL 4 h0.bs as0) ⟨[], []⟩ with
        | some (.ret v, _) => if v.flat then some (.ret v, h0) else none
        | _ => none
      else stepCall0 E call jmp from_ (.fn f x y) as0 h0
    else stepCall0 E call jmp from_ (.fn f x y) as0 h0
  | from_, fv, as0, h0 => stepCall0 E call jmp from_ fv as0 h0
/-- Calls, and jumps, so deep. -/
def evAll (E : Env) : Nat → CallF × JumpF
  | 0 => (fun _ _ _ _ => none, fun _ _ _ _ => none)
  | n + 1 => (stepCall E (evAll E n).1 (evAll E n).2, evCode E (evAll E n).1 (evAll E n).2)
def evCall (E : Env) (n : Nat) : CallF := (evAll E n).1
end Go.Proofs.Ytnkeijebkpjdgaa.Ab
