import Derived.Test.YtbebcbcnibfbhaaEA
/- The engine, second text: the abstract machine's runs: regions, code, calls. -/
namespace Go.Proofs.Ytbebcbcnibfbhaa.Ab
open Go

/-- What a run is over: the program; the functions that may be entered; the types whose values are compared cell by cell; the functions that hand back blocks that may be written; the slots that matter at a loop's head; what functions are known to hand back. -/
structure Env where
  P : Program
  ok : FuncId → Bool
  flat : TypeId → Option (List Nat)
  raw : FuncId → FuncId → Bool
  keep : FuncId → Nat → Option (List Nat)
  sum : FuncId → List AV → Option AV
  fuel : Nat

inductive AX where
  | normal
  | exit (id : Nat)
  | goto (l : Nat)
  | ret
  | panic (v : AV)
inductive AR where
  | ret (v : AV)
  | panic (v : AV)
structure ST where
  tmps : RG
  h : H

def opnd (tmps : RG) : Operand → AV
  | .tmp t => tmps.get t
  | .const v => AV.ofValue v
  | .global _ => .hole
  | .func f => .fn f [] []
def putT (tmps : RG) (dst : Option Tmp) (v : AV) : RG :=
  match dst with
  | some d => tmps.put d v
  | none => tmps
def wantedA (ops : Array Oper) (tmps : RG) (o : Oper) : Option Bool :=
  match o.guard with
  | none => some true
  | some (j, want) => match (ops[j]?).bind (·.dst) with
    | some d => match tmps.get d with
      | .bool b => some (b == want)
      | .hole => none
      | _ => some false
    | none => some false

/-- The heap behind an operation; nid: where a new block goes. -/
def H.app (h : H) (nid : Nat) : WL → H
  | .none => h
  | .new b => if nid = h.bs.length then { h with bs := h.bs ++ [b] } else { bs := h.bs.set nid b, esc := if b.top ≤ nid + 1 then h.esc else (nid, b.top) :: h.esc }
  | .put b off vs => match h.bs[b]? with
    | some (.cells c i) => { bs := h.bs.set b (.cells (splice c off vs) i), esc := if topL vs ≤ b + 1 then h.esc else (b, topL vs) :: h.esc }
    | _ => h
  | .blk b x => { bs := h.bs.set b x, esc := match x with
    | .cells _ i => if i.cl then h.esc else (b, h.bs.length) :: h.esc
    | .dead => h.esc
    | .void => h.esc
    | _ => (b, h.bs.length) :: h.esc }

/-! Slices and variables that nobody writes any more become values. -/
/-- A block from now on unwritten; its cells, themselves sealed by deep. -/
def sealB (deep : List AB → List AV → List AV × List AB) (bs : List AB) (b ver : Nat) : Option (List AV × BI × List AB) :=
  match bs[b]? with
  | some (.cells c i) => if ver = verA i c.length then
      if i.wr = false then some (c, i, bs)
      else if i.cl then some (c, i, bs.set b (.cells c { i with wr := false }))
      else
        match (deep bs c).2[b]? with
        | some (.cells d j) => if (cleanL (deep bs c).1 && (deep bs c).1.length == c.length && d.length == c.length && j.wr && j.opn == i.opn && j.sz == i.sz) = true then
            some ((deep bs c).1, i, (deep bs c).2.set b (.cells (deep bs c).1 { j with cl := true, wr := false })) else none
        | _ => none
    else none
  | _ => none
def tightA : Option Nat → Nat → Bool
  | some m, n => decide (m = n)
  | none, _ => false
mutual
def sealV (deep : List AB → List AV → List AV × List AB) (bs : List AB) : AV → AV × List AB
  | .rsl b off n cap ver => match sealB deep bs b ver with
    | some (c, i, bs') => if off + n * i.sz ≤ c.length ∧ 0 < i.sz then
        (.sl (if off = 0 ∧ c.length = n * i.sz then c else (c.drop off).take (n * i.sz)) n (tightA cap n), bs')
      else (.rsl b off n cap ver, bs)
    | none => (.rsl b off n cap ver, bs)
  | .ref b off ver => match sealB deep bs b ver with
    | some (c, _, bs') => (.vref c off, bs')
    | none => (.ref b off ver, bs)
  | .fn f x y => let (x', bs1) := sealVL deep bs x; let (y', bs2) := sealVL deep bs1 y; (.fn f x' y', bs2)
  | .ifc t v => let (v', bs1) := sealV deep bs v; (.ifc t v', bs1)
  | .agg c => let (c', bs1) := sealVL deep bs c; (.agg c', bs1)
  | .tup c => let (c', bs1) := sealVL deep bs c; (.tup c', bs1)
  | v => (v, bs)
def sealVL (deep : List AB → List AV → List AV × List AB) (bs : List AB) : List AV → List AV × List AB
  | [] => ([], bs)
  | v :: r => let (v', bs1) := sealV deep bs v; let (r', bs2) := sealVL deep bs1 r; (v' :: r', bs2)
end
def sealL : Nat → List AB → List AV → List AV × List AB
  | 0, bs, l => (l, bs)
  | n + 1, bs, l => sealVL (sealL n) bs l
def AV.seal (bs : List AB) (v : AV) : AV × List AB := sealV (sealL 4) bs v
/-- An argument: a slice is handed over as a value. -/
def argA (bs : List AB) : AV → AV × List AB
  | .rsl b off n cap ver => (AV.rsl b off n cap ver).seal bs
  | v => (v, bs)
def argsA (bs : List AB) : List AV → List AV × List AB
  | [] => ([], bs)
  | v :: r => let (v', bs1) := argA bs v; let (r', bs2) := argsA bs1 r; (v' :: r', bs2)

/-- May the blocks from n on go, as far as the older blocks are concerned? -/
def escOk (n : Nat) (esc : List (Nat × Nat)) : Bool := esc.all fun e => decide (n ≤ e.1 ∨ e.2 ≤ n)
def escCut (n : Nat) (esc : List (Nat × Nat)) : List (Nat × Nat) := esc.filter fun e => decide (e.1 < n)
def H.cut (h : H) (n : Nat) : H := { bs := h.bs.take n, esc := escCut n h.esc }
def RG.keep (r : RG) : List Nat → RG
  | [] => RG.empty r.n
  | k :: ks => (r.keep ks).put k (r.get k)
def RG.topOf (r : RG) : List Nat → Nat
  | [] => 0
  | k :: ks => max (r.get k).top (r.topOf ks)
/-- A state at a loop's head: what the round before made, and does not matter, is forgotten. -/
def ST.norm (ks : Option (List Nat)) (n : Nat) (s : ST) : ST :=
  match ks with
  | none => s
  | some ks => if s.h.bs.length ≤ max n (s.tmps.topOf ks) then { s with tmps := s.tmps.keep ks }
    else if escOk (max n (s.tmps.topOf ks)) s.h.esc then { tmps := s.tmps.keep ks, h := s.h.cut (max n (s.tmps.topOf ks)) }
    else { s with tmps := s.tmps.keep ks }
/-- The blocks from n on go, if it may be. -/
def H.trim (h : H) (n : Nat) : H := if h.bs.length ≤ n then h else if escOk n h.esc then h.cut n else h

def usesT (ops : Array Oper) (o : Oper) : List Tmp :=
  (o.op.operands.toList.filterMap fun | .tmp t => some t | _ => none) ++ (match o.guard with
    | some (j, _) => ((ops[j]?).bind (·.dst)).toList
    | none => [])
abbrev CallF := FuncId → AV → List AV → H → Option (AR × H)

/-- One operation, as it comes. -/
inductive OR where
  | ok (s : ST)
  | panic (v : AV) (s : ST)
  | no
def evOper (E : Env) (call : CallF) (fid : FuncId) (o : Oper) (s : ST) : OR :=
  match o.op with
  | .call { callee := .value f, args, .. } => match call fid (opnd s.tmps f) (args.toList.map (opnd s.tmps)) s.h with
    | some (.ret v, h') => .ok { tmps := putT s.tmps o.dst v, h := h' }
    | some (.panic v, h') => .panic v { s with h := h' }
    | none => .no
  | .panic x => match opnd s.tmps x with
    | .ifc t v => .panic (.ifc t v) s
    | _ => .no
  | op => match (evOp E.P E.flat s.h.bs.length op (opnd s.tmps)).run s.h.bs with
    | some (v, w) => .ok { tmps := putT s.tmps o.dst v, h := s.h.app s.h.bs.length w }
    | none => .no
def evOps (E : Env) (call : CallF) (fid : FuncId) (ops : Array Oper) : List Oper → ST → Option (AX × ST)
  | [], s => some (.normal, s)
  | o :: r, s => match wantedA ops s.tmps o with
    | some true => match evOper E call fid o s with
      | .ok s' => evOps E call fid ops r s'
      | .panic v s' => some (.panic v, s')
      | .no => none
    | some false => evOps E call fid ops r { s with tmps := putT s.tmps o.dst (.tup []) }
    | none => none

/-! A region that draws its order: in the order of the text, each new block at a place of its own; what two operations do between which no order is told must not meet. -/
inductive WR where
  | w (x : WL)
  | heap (x : H)
structure Rec where
  reads : List RL
  v : AV
  w : WR
/-- What a call does: one of arguments that name no block, on a heap of its own. -/
def recCall (E : Env) (call : CallF) (fid : FuncId) (f : AV) (as_ : List AV) (h : H) : Option Rec :=
  match f with
  | .fn g x y => if cleanL (x ++ as_ ++ y) && !E.raw fid g then match call fid (.fn g x y) as_ ⟨[], []⟩ with
      | some (.ret v, _) => if v.clean then some ⟨[], v, .w .none⟩ else none
      | _ => none
    else match call fid (.fn g x y) as_ h with
      | some (.ret v, h') => some ⟨[.all], v, .heap h'⟩
      | _ => none
  | f' => match call fid f' as_ h with
    | some (.ret v, h') => some ⟨[.all], v, .heap h'⟩
    | _ => none
def recOf (E : Env) (call : CallF) (fid : FuncId) (ops : Array Oper) (nid : Nat) (o : Oper) (s : ST) : Option Rec :=
  match wantedA ops s.tmps o with
  | some false => some ⟨[], .tup [], .w .none⟩
  | none => none
  | some true => match o.op with
    | .call { callee := .value f, args, .. } => recCall E call fid (opnd s.tmps f) (args.toList.map (opnd s.tmps)) s.h
    | .panic _ => none
    | op => match s.h.bs[nid]? with
      | some .void => match (evOp E.P E.flat nid op (opnd s.tmps)).run s.h.bs with
        | some (v, w) => some ⟨.blk nid :: (evOp E.P E.flat nid op (opnd s.tmps)).reads s.h.bs, v, .w w⟩
        | none => none
      | _ => none
def WR.app (w : WR) (nid : Nat) (h : H) : H :=
  match w with
  | .w w => h.app nid w
  | .heap h' => h'
def Rec.app (r : Rec) (nid : Nat) (dst : Option Tmp) (s : ST) : ST := { tmps := putT s.tmps dst r.v, h := r.w.app nid s.h }
/-- The records of the operations, in the text's order; with each the heap ahead of it. -/
def drawRun (E : Env) (call : CallF) (fid : FuncId) (ops : Array Oper) (base : Nat) : List (Nat × Oper) → ST → Option (List (Nat × Rec × H) × ST)
  | [], s => some ([], s)
  | (i, o) :: r, s => match recOf E call fid ops (base + i) o s with
    | some c => match drawRun E call fid ops base r (c.app (base + i) o.dst s) with
      | some (l, s') => some ((i, c, s.h) :: l, s')
      | none => none
    | none => none

mutual
def AV.same : AV → AV → Bool
  | .bool a, .bool b => a == b
  | .int k a, .int k' b => k == k' && a == b
  | .str a, .str b => a == b
  | .ptr0, .ptr0 => true
  | .sl0, .sl0 => true
  | .map0, .map0 => true
  | .fn0, .fn0 => true
  | .ifc0, .ifc0 => true
  | .ref a b c, .ref d e f => a == d && b == e && c == f
  | .rsl a b c d e, .rsl f g h i j => a == f && b == g && c == h && d == i && e == j
  | .mref a, .mref b => a == b
  | .yc a, .yc b => a == b
  | .vref a b, .vref c d => sameL a c && b == d
  | .sl a b c, .sl d e f => sameL a d && b == e && c == f
  | .fn a b c, .fn d e f => a == d && sameL b e && sameL c f
  | .ifc a b, .ifc c d => a == c && b.same d
  | .agg a, .agg b => sameL a b
  | .tup a, .tup b => sameL a b
  | _, _ => false
def sameL : List AV → List AV → Bool
  | [], [] => true
  | a :: x, b :: y => a.same b && sameL x y
  | _, _ => false
end
/-- Are the cells of a block that are read the same in both heaps? -/
def sameInfo (i j : BI) : Bool := i.cl == j.cl && i.sz == j.sz && i.opn == j.opn && i.wr == j.wr
/-- Does a write leave what is read as it is? (The heap ahead of the write: h.) -/
def apartW (nid : Nat) (h : H) (w : WR) : RL → Bool
  | .cells b off n => match w with
    | .w .none => true
    | .w (.new _) => nid != b
    | .w (.put b' off' vs) => b != b' || decide (off + n ≤ off' ∨ off' + vs.length ≤ off)
    | .w (.blk b' _) => b != b'
    | .heap h' => match h.bs[b]?, h'.bs[b]? with
      | some (.cells c i), some (.cells c' i') => c.length == c'.length && sameInfo i i' && sameL ((c.drop off).take n) ((c'.drop off).take n)
      | _, _ => false
  | .info b => match w with
    | .w .none => true
    | .w (.new _) => nid != b
    | .w (.put ..) => true
    | .w (.blk b' _) => b != b'
    | .heap h' => match h.bs[b]?, h'.bs[b]? with
      | some (.cells c i), some (.cells c' i') => c.length == c'.length && sameInfo i i'
      | _, _ => false
  | .blk b => match w with
    | .w .none => true
    | .w (.new _) => nid != b
    | .w (.put b' _ _) => b != b'
    | .w (.blk b' _) => b != b'
    | .heap h' => match h.bs[b]?, h'.bs[b]? with
      | some .void, some .void => true
      | _, _ => false
  | .all => match w with
    | .w .none => true
    | _ => false
/-- Does a write add to the book of who names whom? -/
def WL.books (nid : Nat) : WL → Bool
  | .none => false
  | .new b => !decide (b.top ≤ nid + 1)
  | .put b _ vs => !decide (topL vs ≤ b + 1)
  | .blk _ (.cells _ i) => !i.cl
  | .blk _ _ => true
def apartWW (nid nid' : Nat) (a b : WR) : Bool :=
  match a, b with
  | .w .none, _ => true
  | _, .w .none => true
  | .w a, .w b => !(a.books nid && b.books nid') && match a, b with
    | .new _, .new _ => nid != nid'
    | .new _, .put b _ _ => nid != b
    | .new _, .blk b _ => nid != b
    | .put b _ _, .new _ => nid' != b
    | .blk b _, .new _ => nid' != b
    | .put b off vs, .put b' off' vs' => b != b' || decide (off + vs.length ≤ off' ∨ off' + vs'.length ≤ off)
    | .put b _ _, .blk b' _ => b != b'
    | .blk b _, .put b' _ _ => b != b'
    | .blk b _, .blk b' _ => b != b'
    | _, _ => false
  | _, _ => false
/-- Two operations that name no slot of each other's. -/
def apartT (ops : Array Oper) (o p : Oper) : Bool :=
  match o.dst with
  | some d => !(usesT ops p).contains d && p.dst != some d
  | none => true
def apart2 (base : Nat) (a b : Nat × Rec × H) : Bool :=
  b.2.1.reads.all (apartW (base + a.1) a.2.2 a.2.1.w) && a.2.1.reads.all (apartW (base + b.1) b.2.2 b.2.1.w) && apartWW (base + a.1) (base + b.1) a.2.1.w b.2.1.w
/-- Of the pairs between which no order is told: none names a slot of the other's; what they do is apart. -/
def drawOk (ops : Array Oper) (base : Nat) (bef : Array Nat) : List (Nat × Rec × H) → Bool
  | [] => true
  | a :: r => (r.all fun b => (bef.getD b.1 0).testBit a.1 || (apartT ops (ops.getD a.1 default) (ops.getD b.1 default) && apartT ops (ops.getD b.1 default) (ops.getD a.1 default) && apart2 base a b)) && drawOk ops base bef r
/-- The operations' order: each is told of earlier ones alone. -/
def orderOk (ops : Array Oper) : Bool := ops.toList.zipIdx.all fun p => p.1.after.toList.all fun e => decide (e.on < p.2) || !Region.binds .any e
def evDrawn (E : Env) (call : CallF) (fid : FuncId) (ops : Array Oper) (s : ST) : Option (AX × ST) :=
  let base := s.h.bs.length
  let s0 : ST := { s with h := { s.h with bs := s.h.bs ++ List.replicate ops.size .void } }
  match drawRun E call fid ops base (ops.toList.zipIdx.map fun p => (p.2, p.1)) s0 with
  | some (l, s') => if orderOk ops && drawOk ops base (Region.before ops) l then some (.normal, s') else none
  | none => none

def evLoop (f : ST → Option (AX × ST)) (nm : ST → ST) : Nat → ST → Option (AX × ST)
  | 0, _ => none
  | n + 1, s => match f (nm s) with
    | some (.normal, s') => evLoop f nm n s'
    | r => r
/-- The number of the first region of some code. -/
def firstR : Code → Nat
  | .region id _ _ => id
  | .seq a _ => firstR a
  | .block _ b => firstR b
  | .loop b => firstR b
  | .scope b => firstR b
  | _ => 0
abbrev JumpF := Bool → FuncId → Code → ST → Option (AX × ST)
/-- Behind a jump to a label of a scope: the code from the label on, within the scope. -/
def evJumps (jmp : Code → ST → Option (AX × ST)) (body : Code) : Nat → Nat → ST → Option (AX × ST)
  | 0, _, _ => none
  | n + 1, l, s => match findLabel body l with
    | none => some (.goto l, s)
    | some rest => match jmp rest s with
      | some (.goto l', s') => evJumps jmp body n l' s'
      | r => r
/-- How a loop over a function is left. -/
def jumpA : Option Code → Option AX
  | none => some .normal
  | some .ret => some .ret
  | some (.exit id) => some (.exit id)
  | some (.goto l) => some (.goto l)
  | some _ => none
def evRange (call : CallF) (fid : FuncId) (f : Operand) (ps : Array Tmp) (assign body : Code) (s : ST) : Option (AX × ST) :=
  match opnd s.tmps f with
  | .fn g x y => match call fid (.fn g x y) [.yc s.h.bs.length] { s.h with bs := s.h.bs ++ [.loop fid s.tmps ps.toList assign body .ready none] } with
    | some (.ret _, h') => match h'.bs[s.h.bs.length]? with
      | some (.loop _ _ _ _ _ st pend) => if st = .busy then none else
        match jumpA pend with
        | some x => some (x, { s with h := H.trim { h' with bs := h'.bs.set s.h.bs.length .dead } s.h.bs.length })
        | none => none
      | _ => none
    | _ => none
  | _ => none
def evCode (E : Env) (call : CallF) (jmp : JumpF) (rd : Bool) (fid : FuncId) : Code → ST → Option (AX × ST)
  | .skip, s => some (.normal, s)
  | .region _ ops draw, s => if draw then evDrawn E call fid ops s else evOps E call fid ops ops.toList s
  | .seq a b, s => match evCode E call jmp rd fid a s with
    | some (.normal, s') => evCode E call jmp rd fid b s'
    | r => r
  | .cond c a b, s => match opnd s.tmps c with
    | .bool t => if t then evCode E call jmp rd fid a s else evCode E call jmp rd fid b s
    | _ => none
  | .block id b, s => match evCode E call jmp rd fid b s with
    | some (.exit id', s') => if id' = id then some (.normal, s') else some (.exit id', s')
    | r => r
  | .loop b, s => evLoop (evCode E call jmp rd fid b) (ST.norm (E.keep fid (firstR b)) s.h.bs.length) E.fuel s
  | .rangeFunc f ps assign body, s => if rd then none else evRange call fid f ps assign body s
  | .exit id, s => some (.exit id, s)
  | .label _, s => some (.normal, s)
  | .goto l, s => some (.goto l, s)
  | .ret, s => some (.ret, s)
  | .scope body, s => match evCode E call jmp rd fid body s with
    | some (.goto l, s') => evJumps (jmp rd fid) body E.fuel l s'
    | r => r
  | .refuse _, _ => none

/-- What a function hands back. -/
def resA (P : Program) (s : ST) : List ResultVar → Option (List AV)
  | [] => some []
  | .tmp t :: r => (resA P s r).map (s.tmps.get t :: ·)
  | .cell a t :: r => match (loadA P t (s.tmps.get a)).run s.h.bs with
    | some (v, _) => (resA P s r).map (v :: ·)
    | none => none
def asOne : List AV → AV
  | [v] => v
  | vs => .tup vs
/-- The end of a call that was entered with n blocks: what is handed back, sealed; the blocks that are its own go, if nobody names them. -/
def leaveA (raw : Bool) (n : Nat) (v : AV) (h : H) : AV × H :=
  let (v', bs') := if raw then (v, h.bs) else v.seal h.bs
  if v'.und n && escOk n h.esc then (v', { bs := bs'.take n, esc := escCut n h.esc }) else (v', { h with bs := bs' })

def evBody (E : Env) (call : CallF) (jmp : JumpF) (raw : Bool) (f : FuncId) (fn : Func) (c : Code) (args : List AV) (h : H) : Option (AR × H) :=
  if args.length ≤ fn.ntmps then match evCode E call jmp false f c { tmps := (RG.empty fn.ntmps).puts 0 args, h } with
  | some (.normal, s) => match resA E.P s fn.results.toList with
    | some vs => let (v, h') := leaveA raw h.bs.length (asOne vs) s.h; some (.ret v, h')
    | none => none
  | some (.ret, s) => match resA E.P s fn.results.toList with
    | some vs => let (v, h') := leaveA raw h.bs.length (asOne vs) s.h; some (.ret v, h')
    | none => none
  | some (.panic v, s) => let (v', h') := leaveA false h.bs.length v s.h; some (.panic v', h')
  | _ => none
  else none

/-- The end of a round: the loop's record is told how it ended. -/
def endR (b n : Nat) (st : LoopState) (p : Option Code) (h : H) : Option (AR × H) :=
  match h.bs[b]? with
  | some (.loop fid tmps ps assign body _ _) => some (.ret (.bool p.isNone), H.trim { h with bs := h.bs.set b (.loop fid tmps ps assign body st p) } n)
  | _ => none
def yieldA (E : Env) (call : CallF) (jmp : JumpF) (b : Nat) (args : List AV) (h : H) : Option (AR × H) :=
  match h.bs[b]? with
  | some (.loop fid tmps ps assign body .ready _) =>
    if args.length = ps.length then
      match evCode E call jmp true fid assign { tmps := (ps.zip args).foldl (fun t p => t.put p.1 p.2) tmps, h } with
      | some (.normal, s1) =>
        match s1.h.bs[b]? with
        | some (.loop fid1 tmps1 ps1 assign1 body1 .ready p1) =>
          match evCode E call jmp true fid body { s1 with h := { s1.h with bs := s1.h.bs.set b (.loop fid1 tmps1 ps1 assign1 body1 .busy p1) } } with
          | some (.normal, s2) => endR b h.bs.length .ready none s2.h
          | some (.ret, s2) => endR b h.bs.length .done (some .ret) s2.h
          | some (.exit id, s2) => endR b h.bs.length .done (some (.exit id)) s2.h
          | some (.goto l, s2) => endR b h.bs.length .done (some (.goto l)) s2.h
          | _ => none
        | _ => none
      | _ => none
    else none
  | _ => none

/-- A call: of a function with what it bears, of a loop's round. Arguments that name no block: on a heap of its own. -/
def stepCall (E : Env) (call : CallF) (jmp : JumpF) : CallF
  | from_, .fn f x y, as0, h0 =>
    let raw := E.raw from_ f
    let (as1, bs1) := if raw then (as0, h0.bs) else argsA h0.bs as0
    let h : H := { h0 with bs := bs1 }
    let args := x ++ as1 ++ y
    if E.ok f then
      match E.P.funcs[f]? with
      | none => none
      | some fn => match fn.body with
        | none => none
        | some c =>
          if cleanL args && !raw then
            match E.sum f args with
            | some v => if v.clean then some (.ret v, h) else none
            | none =>
            match evBody E call jmp false f fn c args ⟨[], []⟩ with
            | some (.ret v, _) => if v.clean then some (.ret v, h) else none
            | some (.panic v, _) => if v.clean then some (.panic v, h) else none
            | none => none
          else evBody E call jmp raw f fn c args h
    else none
  | _, .yc b, args, h => yieldA E call jmp b args h
  | _, _, _, _ => none
/-- Calls, and jumps, so deep. -/
def evAll (E : Env) : Nat → CallF × JumpF
  | 0 => (fun _ _ _ _ => none, fun _ _ _ _ => none)
  | n + 1 => (stepCall E (evAll E n).1 (evAll E n).2, evCode E (evAll E n).1 (evAll E n).2)
def evCall (E : Env) (n : Nat) : CallF := (evAll E n).1
end Go.Proofs.Ytbebcbcnibfbhaa.Ab
