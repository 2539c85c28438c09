import Derived.Test.YtnfkpnfafekflaaMNodesSpoil12
import Derived.Laws.BitsLemmas
import Derived.Laws.Bits64
set_option linter.unusedVariables false
set_option linter.unusedSimpArgs false
/- Over the engine, third text: creds.In. -/
namespace Go.Proofs.Ytnfkpnfafekflaa.Ab
open Go Go.RowKit

theorem wrap64 {i : Int} (h0 : -9223372036854775808 ≤ i) (h1 : i ≤ 9223372036854775807) : IntKind.wrap .i64 i = i := by
  rw [IntKind.wrap_i64]; omega
theorem wrapu32 {i : Int} (h0 : 0 ≤ i) (h1 : i < 4294967296) : IntKind.wrap .u32 i = i := by
  rw [IntKind.wrap_u32]; omega
theorem wf_u32 {x : Int} (h : (Lit.int .u32 x).wf = true) : 0 ≤ x ∧ x < 4294967296 := by
  simp only [Lit.wf, Bool.and_eq_true, decide_eq_true_eq] at h
  rw [show IntKind.u32.min = 0 from rfl, show IntKind.u32.max = 4294967295 from rfl] at h
  omega
set_option maxRecDepth 100000
def idxS (l : List Int) (t : Bool) (g : Int) (i : Int) : ST :=
  ⟨RG.of 19 [(8, .int .i64 i), (7, .int .i64 l.length), (1, .int .u32 g), (0, .sl (numsA .u32 l) l.length t)], ⟨[], []⟩⟩
/-- Who calls. -/
structure CredS where
  user : Int
  group : Int
  gs : AV
  l : List Int
def CredS.ok (c : CredS) : Prop := rowOk .u32 c.gs c.l ∧ c.l.length ≤ 4611686018427387900
def credA (c : CredS) : AV := .agg [.int .u32 c.user, .int .u32 c.group, c.gs]
def inS (c : CredS) (g : Int) : Bool := c.group == g || decide (g ∈ c.l)
end Go.Proofs.Ytnfkpnfafekflaa.Ab
/- Over the engine, fourth text: access.May, access.Owns, access.Bits. -/
namespace Go.Proofs.Ytnfkpnfafekflaa.Ab
open Go Go.RowKit

def band (k : IntKind) (a b : Int) : Int := IntKind.wrap k ((BitVec.ofInt k.bits a &&& BitVec.ofInt k.bits b).toNat : Int)
def bor (k : IntKind) (a b : Int) : Int := IntKind.wrap k ((BitVec.ofInt k.bits a ||| BitVec.ofInt k.bits b).toNat : Int)
def shr (a s : Int) : Int := a.fdiv (2 ^ (min s.toNat 32))
def mayX (x : NodeS) (c : CredS) (what : Int) : Bool :=
  !decide (what < 1) && (!decide (what > 7) && bif c.user == 0 then band .u32 what 1 == 0 || (x.kind != 1 || band .u32 x.mode 73 != 0)
    else bif c.user == x.user then band .u32 (shr x.mode 6) what == what else bif inS c x.group then band .u32 (shr x.mode 3) what == what else band .u32 (shr x.mode 0) what == what)
set_option maxRecDepth 100000
end Go.Proofs.Ytnfkpnfafekflaa.Ab
/- Over the engine: more operations with letters; what is handed back, by lemmas. -/
namespace Go.Proofs.Ytnfkpnfafekflaa.Ab
open Go Go.RowKit

theorem splice_nil : ∀ (c : List AV) (k : Nat), splice c k [] = c
  | [], _ => rfl
  | _ :: _, 0 => rfl
  | x :: c, k + 1 => by simp only [splice, splice_nil c k]
theorem splice_left : ∀ (a b : List AV) (k : Nat) (vs : List AV), k + vs.length ≤ a.length → splice (a ++ b) k vs = splice a k vs ++ b
  | [], b, 0, [], _ => by cases b <;> rfl
  | [], b, k, v :: vs, h => by simp at h
  | [], b, k + 1, [], h => by simp at h
  | x :: a, b, 0, [], _ => rfl
  | x :: a, b, 0, v :: vs, h => by
    have := splice_left a b 0 vs (by simp at h ⊢; omega)
    simp only [List.cons_append, splice, this]
  | x :: a, b, k + 1, vs, h => by
    have := splice_left a b k vs (by simp at h ⊢; omega)
    simp only [List.cons_append, splice, this]
theorem splice_right : ∀ (a b : List AV) (k : Nat) (vs : List AV), splice (a ++ b) (a.length + k) vs = a ++ splice b k vs
  | [], b, k, vs => by simp
  | x :: a, b, k, vs => by
    rw [List.length_cons, show a.length + 1 + k = (a.length + k) + 1 by omega, List.cons_append]
    simp only [splice, splice_right a b k vs, List.cons_append]
theorem splice_rows {α : Type} {f : α → List AV} {z : Nat} (hf : ∀ x, (f x).length = z) : ∀ {l : List α} {i : Nat} {x x' : α} {k : Nat} {vs : List AV}, l[i]? = some x → k + vs.length ≤ z → splice (f x) k vs = f x' → splice (l.map f).flatten (i * z + k) vs = ((l.set i x').map f).flatten
  | [], i, x, x', k, vs, h, _, _ => by simp at h
  | y :: l, 0, x, x', k, vs, h, hk, he => by
    simp at h
    subst h
    rw [List.map_cons, List.flatten_cons, Nat.zero_mul, Nat.zero_add, splice_left _ _ _ _ (by rw [hf]; exact hk), he]
    rfl
  | y :: l, i + 1, x, x', k, vs, h, hk, he => by
    simp at h
    rw [List.map_cons, List.flatten_cons, show (i + 1) * z + k = (f y).length + (i * z + k) by rw [hf, Nat.add_mul]; omega, splice_right, splice_rows hf h hk he]
    rfl
theorem splice_nodes {ns : List NodeS} {i : Nat} {x x' : NodeS} {k : Nat} {vs : List AV} (hx : ns[i]? = some x) (hk : k + vs.length ≤ 25) (he : splice (nodeA x) k vs = nodeA x') : splice (nodesA ns) (i * 25 + k) vs = nodesA (ns.set i x') := splice_rows nodeA_len hx hk he

section
variable {P : Program} {flat : TypeId → Option (List Nat)} {nid : Nat} {ρ : Operand → AV}
/-- An append to an empty row. -/
theorem runK_append_new {t u e e' : TypeId} {sz by_ : Nat} {zc : List AV} {a x : Operand} {b n : Nat} {cells c : List AV} {tt : Bool} {i : BI} {h : List AB} {K : List RL → AV → WL → Prop} (ht : P.underlying t = some (.slice e)) (hu : P.underlying u = some (.slice e')) (hs : szOf P e = some sz) (hb : bytesA P e = some by_) (hz : zeroCellsA P e = some zc)
    (ha : ρ a = .rsl b 0 0 (some 0) 0) (hx : ρ x = .sl cells n tt) (hbb : h[b]? = some (.cells c i)) (hver : 0 = verA i c.length) (hn : 0 < n) (hl : cells.length = n * sz) (h1 : n ≤ 140737488355328) (h2 : n * by_ ≤ 140737488355328) (h3 : 0 < sz) (h4 : zc.length = sz)
    (hk : K [.info b, .cells b 0 (0 * sz)] (.rsl nid 0 n none (cells.length + 1)) (.new (.cells cells ⟨plainL zc, sz, true, true⟩))) : runK (evOp P flat nid (.call { callee := .builtin .append, args := #[a, x], argTypes := #[t, u] }) ρ) h K := by
  simp only [evOp, builtinA, List.map_cons, List.map_nil, appendA, ht, hs, hb, hz, ha, hx, newCells, List.head?_cons, hu, lenOfA, sliceCells, Option.getD_some]
  have e1 : (if True ∧ cells.length = n * sz then cells else cells.take (n * sz)) = cells := if_pos ⟨trivial, hl⟩
  simp only [e1]
  rw [if_pos ⟨Nat.le_refl _, by omega⟩, if_pos ⟨by omega, by rw [Nat.zero_add]; exact h2, h3, h4⟩]
  unfold runK
  simp only [hbb]
  rw [if_pos hver, if_neg (by omega)]
  unfold runK
  simp only [hbb]
  rw [if_pos (by omega)]
  refine runK_ret (v := .rsl nid 0 n none (cells.length + 1)) (w := .new (.cells cells ⟨plainL zc, sz, true, true⟩)) ?_ hk
  simp [cleanL]
theorem ev_clip {t e : TypeId} {sz n : Nat} {a hi mx : Operand} {cells : List AV} {tt : Bool} {k k' : IntKind} (ht : P.underlying t = some (.slice e)) (hs : szOf P e = some sz) (ha : ρ a = .sl cells n tt) (hh : ρ hi = .int k n) (hm : ρ mx = .int k' n) (hl : cells.length = n * sz) :
    evOp P flat nid (.slice t a none (some hi) (some mx)) ρ = .ret (.sl cells n true, .none) := by
  simp only [evOp, sliceA, ht, ha, hs, Option.map_some, Option.map_none, boundsA, boundA, hh, hm]
  rw [if_pos ⟨by omega, by omega⟩]
  simp only [Int.toNat_natCast]
  rw [if_pos ⟨by omega, by omega⟩]
  simp only [Nat.le_refl, and_self, if_true, hl, tightS, Int.toNat_natCast, decide_true, Nat.sub_zero]
end
theorem splice_all : ∀ (c vs : List AV), c.length = vs.length → splice c 0 vs = vs
  | [], [], _ => rfl
  | [], _ :: _, h => by simp at h
  | _ :: _, [], h => by simp at h
  | x :: c, v :: vs, h => by simp only [splice, splice_all c vs (by simpa using h)]
section
variable {P : Program} {flat : TypeId → Option (List Nat)} {nid : Nat} {ρ : Operand → AV}
/-- A copy of a whole row. -/
theorem runK_copy_all {t u e : TypeId} {sz : Nat} {a x : Operand} {b n : Nat} {cap : Option Nat} {cells c : List AV} {tt : Bool} {i : BI} {h : List AB} {K : List RL → AV → WL → Prop} (ht : P.underlying t = some (.slice e)) (hs : szOf P e = some sz)
    (ha : ρ a = .rsl b 0 n cap 0) (hx : ρ x = .sl cells n tt) (hbb : h[b]? = some (.cells c i)) (hver : 0 = verA i c.length) (hw : i.wr = true) (hl : cells.length = n * sz) (hc : c.length = n * sz)
    (hk : K [.info b] (.int .i64 n) (.put b 0 cells)) : runK (evOp P flat nid (.call { callee := .builtin .copy, args := #[a, x], argTypes := #[t, u] }) ρ) h K := by
  simp only [evOp, builtinA, List.map_cons, List.map_nil, copyA, ht, hs, ha, hx, lenOfA, sliceCells, Nat.min_self]
  have e1 : (if True ∧ cells.length = n * sz then cells else cells.take (n * sz)) = cells := if_pos ⟨trivial, hl⟩
  simp only [e1]
  rw [if_pos ⟨Nat.le_refl _, by omega⟩]
  unfold runK
  simp only [hbb]
  rw [if_pos ⟨hver, hw, by omega, .inr trivial⟩]
  exact runK_ret rfl hk
end
section
variable {P : Program} {flat : TypeId → Option (List Nat)} {nid : Nat} {ρ : Operand → AV}
theorem ev_makeN {t e : TypeId} {sz by_ : Nat} {z cs : List AV} {a b : Operand} {k k' : IntKind} {n : Nat} (ht : P.underlying t = some (.slice e)) (hs : szOf P e = some sz) (hb : bytesA P e = some by_) (hz : zeroCellsA P e = some z) (ha : ρ a = .int k n) (hy : ρ b = .int k' n)
    (h2 : n ≤ 140737488355328) (h3 : by_ * n ≤ 140737488355328) (h4 : z.length = sz) (h5 : 0 < sz) (h6 : oneL z = true) (hcs : repCells n z = cs) :
    evOp P flat nid (.makeSlice t a b) ρ = .ret (.rsl nid 0 n (some n) 0, .new (.cells cs ⟨cleanL z && plainL z, sz, false, true⟩)) := by
  rw [ev_makeSlice ht hs hb hz ha hy (by omega) (by omega) (by omega) (by have : (by_ * (n : Int)) = ((by_ * n : Nat) : Int) := by rw [Int.natCast_mul]
                                                                          omega) h4 h5 h6, Int.toNat_natCast, hcs]
end
section
variable {P : Program} {flat : TypeId → Option (List Nat)} {nid : Nat} {ρ : Operand → AV}
theorem ev_box {t : TypeId} {x : Operand} {c : List AV} (hx : (ρ x).toCells = some c) (ho : oneL c = true) : evOp P flat nid (.box t x) ρ = .ret (.ref nid 0 0, .new (.cells c ⟨false, 0, false, true⟩)) := by
  simp only [evOp, hx, ho, if_true]
/-- A copy of as much as fits. -/
theorem runK_copy_part {t u e : TypeId} {a x : Operand} {b n m : Nat} {cap : Option Nat} {cells c : List AV} {tt : Bool} {i : BI} {h : List AB} {K : List RL → AV → WL → Prop} (ht : P.underlying t = some (.slice e)) (hs : szOf P e = some 1)
    (ha : ρ a = .rsl b 0 m cap 0) (hx : ρ x = .sl cells n tt) (hbb : h[b]? = some (.cells c i)) (hver : 0 = verA i c.length) (hw : i.wr = true) (hl : cells.length = n) (hc : c.length = m)
    (hk : K [.info b] (.int .i64 (min n m : Nat)) (.put b 0 (cells.take (min n m)))) : runK (evOp P flat nid (.call { callee := .builtin .copy, args := #[a, x], argTypes := #[t, u] }) ρ) h K := by
  simp only [evOp, builtinA, List.map_cons, List.map_nil, copyA, ht, hs, ha, hx, lenOfA, sliceCells, Nat.mul_one]
  have e1 : (if min n m = n ∧ cells.length = min n m then cells else cells.take (min n m)) = cells.take (min n m) := by
    split
    · rename_i h
      rw [List.take_of_length_le (by omega)]
    · rfl
  simp only [e1]
  rw [if_pos ⟨Nat.min_le_left _ _, by omega⟩]
  unfold runK
  simp only [hbb]
  rw [if_pos ⟨hver, hw, by omega, .inr trivial⟩]
  exact runK_ret rfl hk
theorem runK_copy_letter {t u e : TypeId} {a x : Operand} {b n m : Nat} {cap : Option Nat} {cells c : List AV} {tt : Bool} {i : BI} {h : List AB} {K : List RL → AV → WL → Prop} (ht : P.underlying t = some (.slice e)) (hs : szOf P e = some 1)
    (ha : ρ a = .rsl b 0 m cap 0) (hx : ρ x = .sl cells n tt) (hbb : h[b]? = some (.cells c i)) (hver : 0 = verA i c.length) (hw : i.wr = true) (hl : cells.length = n) (hc : c.length = m)
    (hk : ∀ cs (k : Int), cs = cells.take (min n m) → K [.info b] (.int .i64 k) (.put b 0 cs)) : runK (evOp P flat nid (.call { callee := .builtin .copy, args := #[a, x], argTypes := #[t, u] }) ρ) h K :=
  runK_copy_part ht hs ha hx hbb hver hw hl hc (hk _ _ rfl)
theorem runK_copy_nil {t u e : TypeId} {sz : Nat} {a x : Operand} {b m : Nat} {cap : Option Nat} {c : List AV} {i : BI} {h : List AB} {K : List RL → AV → WL → Prop} (ht : P.underlying t = some (.slice e)) (hs : szOf P e = some sz)
    (ha : ρ a = .rsl b 0 m cap 0) (hx : ρ x = .sl0) (hbb : h[b]? = some (.cells c i)) (hver : 0 = verA i c.length) (hw : i.wr = true)
    (hk : K [.info b] (.int .i64 0) (.put b 0 [])) : runK (evOp P flat nid (.call { callee := .builtin .copy, args := #[a, x], argTypes := #[t, u] }) ρ) h K := by
  simp only [evOp, builtinA, List.map_cons, List.map_nil, copyA, ht, hs, ha, hx, lenOfA, sliceCells, Nat.zero_min, if_true]
  unfold runK
  simp only [hbb]
  rw [if_pos ⟨hver, hw, by omega, .inr trivial⟩]
  exact runK_ret rfl hk
end
/-- What is handed back, when it is known how it is sealed. -/
theorem leaveA_of {n : Nat} {v v' : AV} {h : H} {bs' : List AB} (hs : v.seal h.bs = (v', bs')) (hu : v'.und n = true) (he : escOk n h.esc = true) : leaveA false n v h = (v', { bs := bs'.take n, esc := escCut n h.esc }) := by
  unfold leaveA
  simp only [hs, hu, he, Bool.false_eq_true, if_false, Bool.and_self, if_true]
theorem seal_rsl {bs : List AB} {b off n ver : Nat} {cap : Option Nat} {c : List AV} {i : BI} (hb : bs[b]? = some (.cells c i)) (hv : ver = verA i c.length) (hw : i.wr = true) (hcl : i.cl = true) (hl : off + n * i.sz ≤ c.length) (hz : 0 < i.sz) :
    AV.seal bs (.rsl b off n cap ver) = (.sl ((c.drop off).take (n * i.sz)) n (tightA cap n), bs.set b (.cells c { i with wr := false })) := argA_rsl hb hv hw hcl hl hz
/-- The end of a body, told by a letter. -/
def EndOk (P : Program) (fn : Func) (raw : Bool) (n : Nat) (K : AV → H → Prop) (End : AX → ST → Prop) : Prop :=
  ∀ (x : AX) (s : ST) (vs : List AV) (v' : AV) (h' : H), (x = .normal ∨ x = .ret) → resA P s fn.results.toList = some vs → leaveA raw n (asOne vs) s.h = (v', h') → K v' h' → End x s
theorem body_end {E : Env} {call : CallF} {jmp : JumpF} {raw : Bool} {f : FuncId} {fn : Func} {c : Code} {args : List AV} {h : H} {K : AV → H → Prop} (hn : args.length ≤ fn.ntmps)
    (hwp : ∀ End, EndOk E.P fn raw h.bs.length K End → putsK (RG.empty fn.ntmps) 0 args fun r => codeK E call f jmp false c ⟨r, h⟩ End) : ∃ v h', evBody E call jmp raw f fn c args h = some (.ret v, h') ∧ K v h' := by
  have hw := hwp (fun x s => ∃ vs v' h', (x = .normal ∨ x = .ret) ∧ resA E.P s fn.results.toList = some vs ∧ leaveA raw h.bs.length (asOne vs) s.h = (v', h') ∧ K v' h') (fun x s vs v' h' h1 h2 h3 h4 => ⟨vs, v', h', h1, h2, h3, h4⟩)
  rw [putsK_eq] at hw
  obtain ⟨x, s', h1, vs, v', h', h2, h3, h4, h5⟩ := codeK_sound _ _ _ _ _ _ hw
  refine ⟨v', h', ?_, h5⟩
  unfold evBody
  rw [if_pos hn]
  rcases h2 with rfl | rfl <;> simp only [h1, h3, h4]
/-- call_clean, with the end told by a letter. -/
theorem call_cleanE {E : Env} {n : Nat} {from_ f : FuncId} {fn : Func} {c : Code} {x y args : List AV} {v : AV} {h : H} (hok : E.ok f = true) (hf : E.P.funcs[f]? = some fn) (hb : fn.body = some c) (hraw : E.raw from_ f = false) (hcl : cleanL (x ++ args ++ y) = true) (hv : v.clean = true)
    (hsum : E.sum f (x ++ args ++ y) = none) (hn : (x ++ args ++ y).length ≤ fn.ntmps)
    (hwp : ∀ End, EndOk E.P fn false 0 (fun v' _ => v' = v) End → putsK (RG.empty fn.ntmps) 0 (x ++ args ++ y) fun r => codeK E (evAll E n).1 f (evAll E n).2 false c ⟨r, ⟨[], []⟩⟩ End) : evCall E (n + 1) from_ (.fn f x y) args h = some (.ret v, h) := by
  obtain ⟨v', h', hk, rfl⟩ := body_end (h := ⟨[], []⟩) hn hwp
  have hcl' : cleanL args = true := by
    rw [cleanL_app, cleanL_app, Bool.and_eq_true, Bool.and_eq_true] at hcl
    exact hcl.1.2
  show stepCall E (evAll E n).1 (evAll E n).2 from_ (.fn f x y) args h = _
  unfold stepCall stepCall0
  simp only [hcl', Bool.not_true, Bool.and_false, hraw, argsA_clean args h.bs hcl', hok, hf, hb, hcl, hsum, hk, hv, Bool.false_eq_true, if_false, Bool.not_false, Bool.and_true, if_true]
/-- A function that was handed its first arguments before. -/
theorem call_bound {E : Env} {n : Nat} {from_ f : FuncId} {x : List AV} {h : H} (hcl : cleanL x = true) (hraw : E.raw from_ f = false) : evCall E (n + 1) from_ (.fn f x []) [] h = evCall E (n + 1) from_ (.fn f [] []) x h := by
  show stepCall E (evAll E n).1 (evAll E n).2 from_ (.fn f x []) [] h = stepCall E (evAll E n).1 (evAll E n).2 from_ (.fn f [] []) x h
  unfold stepCall stepCall0
  simp only [hcl, show cleanL [] = true from rfl, Bool.not_true, Bool.and_false, hraw, argsA_clean x h.bs hcl, argsA_clean [] h.bs rfl, List.append_nil, List.nil_append, Bool.false_eq_true, if_false]
/-! Sealing. -/
mutual
theorem sealV_clean (deep : List AB → List AV → List AV × List AB) (bs : List AB) : ∀ v : AV, v.clean = true → sealV deep bs v = (v, bs)
  | .ref .., h => by simp [AV.clean] at h
  | .rsl .., h => by simp [AV.clean] at h
  | .fn f x y, h => by
    simp only [AV.clean, Bool.and_eq_true] at h
    simp only [sealV, sealVL_clean deep bs x h.1, sealVL_clean deep bs y h.2]
  | .ifc t v, h => by
    simp only [AV.clean] at h
    simp only [sealV, sealV_clean deep bs v h]
  | .agg c, h => by
    simp only [AV.clean] at h
    simp only [sealV, sealVL_clean deep bs c h]
  | .tup c, h => by
    simp only [AV.clean] at h
    simp only [sealV, sealVL_clean deep bs c h]
  | .hole, _ => rfl
  | .bool _, _ => rfl
  | .int .., _ => rfl
  | .str _, _ => rfl
  | .ptr0, _ => rfl
  | .sl0, _ => rfl
  | .map0, _ => rfl
  | .fn0, _ => rfl
  | .ifc0, _ => rfl
  | .vref .., _ => rfl
  | .sl .., _ => rfl
  | .mref _, _ => rfl
  | .yc _, _ => rfl
theorem sealVL_clean (deep : List AB → List AV → List AV × List AB) (bs : List AB) : ∀ l : List AV, cleanL l = true → sealVL deep bs l = (l, bs)
  | [], _ => rfl
  | v :: r, h => by
    simp only [cleanL, Bool.and_eq_true] at h
    simp only [sealVL, sealV_clean deep bs v h.1, sealVL_clean deep bs r h.2]
end
theorem sealVL_app (deep : List AB → List AV → List AV × List AB) : ∀ (a b : List AV) (bs : List AB), sealVL deep bs (a ++ b) = ((sealVL deep bs a).1 ++ (sealVL deep (sealVL deep bs a).2 b).1, (sealVL deep (sealVL deep bs a).2 b).2)
  | [], b, bs => rfl
  | x :: a, b, bs => by
    simp only [List.cons_append, sealVL, sealVL_app deep a b]
/-- A row whose cells are sealed in their turn. -/
theorem seal_deep {bs bs' : List AB} {b n ver : Nat} {cap : Option Nat} {c c' d : List AV} {i j : BI} (hb : bs[b]? = some (.cells c i)) (hv : ver = verA i c.length) (hw : i.wr = true) (hcl : i.cl = false) (hd : sealVL (sealL 3) bs c = (c', bs')) (hb' : bs'[b]? = some (.cells d j))
    (h1 : cleanL c' = true) (h2 : c'.length = c.length) (h3 : d.length = c.length) (h4 : j.wr = true) (h5 : j.opn = i.opn) (h6 : j.sz = i.sz) (hl : c.length = n * i.sz) (hz : 0 < i.sz) : AV.seal bs (.rsl b 0 n cap ver) = (.sl c' n (tightA cap n), bs'.set b (.cells c' { j with cl := true, wr := false })) := by
  unfold AV.seal
  have hs : sealB (sealL 4) bs b ver = some (c', i, bs'.set b (.cells c' { j with cl := true, wr := false })) := by
    unfold sealB
    have e : sealL 4 bs c = (c', bs') := hd
    simp only [hb, e, hw, hcl, hb', h1, h2, h3, h4, h5, h6, Bool.true_eq_false, Bool.false_eq_true, if_false, if_true, beq_self_eq_true, Bool.and_self]
    rw [if_pos hv]
  simp only [sealV, hs]
  rw [if_pos ⟨by omega, hz⟩, if_pos ⟨trivial, by omega⟩]
end Go.Proofs.Ytnfkpnfafekflaa.Ab
/- Over the engine: numbers of four and eight bytes. -/
namespace Go.Proofs.Ytnfkpnfafekflaa.Ab
open Go Go.RowKit

set_option maxRecDepth 100000
section
variable {P : Program} {flat : TypeId → Option (List Nat)} {nid : Nat} {ρ : Operand → AV}
/-- A part of a row that nobody writes: its beginning. -/
theorem ev_sliceTo {t e : TypeId} {sz : Nat} {a hi : Operand} {cells : List AV} {n : Nat} {tight : Bool} {k : IntKind} {j : Int} (ht : P.underlying t = some (.slice e)) (hs : szOf P e = some sz) (ha : ρ a = .sl cells n tight) (hh : ρ hi = .int k j) (h0 : 0 ≤ j) (h1 : j ≤ n) (hl : j.toNat * sz ≤ cells.length) :
    evOp P flat nid (.slice t a none (some hi) none) ρ = .ret (.sl (cells.take (j.toNat * sz)) j.toNat (tight && decide (j.toNat = n)), .none) := by
  simp only [evOp, sliceA, ht, ha, hs, Option.map_some, Option.map_none, boundsA, boundA, hh]
  rw [if_pos ⟨h0, h1⟩]
  simp only
  rw [if_pos hl]
  have e : (if True ∧ j.toNat = n ∧ cells.length = j.toNat * sz then cells else (cells.take (j.toNat * sz)).drop (0 * sz)) = cells.take (j.toNat * sz) := by
    split
    · rename_i h
      rw [← h.2.2, List.take_length]
    · simp
  rw [e]
  rfl
/-- Its end. -/
theorem ev_sliceFrom {t e : TypeId} {sz : Nat} {a lo : Operand} {cells : List AV} {n : Nat} {tight : Bool} {k : IntKind} {j : Int} (ht : P.underlying t = some (.slice e)) (hs : szOf P e = some sz) (ha : ρ a = .sl cells n tight) (hh : ρ lo = .int k j) (h0 : 0 ≤ j) (h1 : j ≤ n) (hl : cells.length = n * sz) :
    evOp P flat nid (.slice t a (some lo) none none) ρ = .ret (.sl (cells.drop (j.toNat * sz)) (n - j.toNat) tight, .none) := by
  simp only [evOp, sliceA, ht, ha, hs, Option.map_some, Option.map_none, boundsA, boundA, hh, Option.isNone_none, if_true]
  rw [if_pos ⟨h0, h1⟩]
  simp only
  rw [if_pos (by omega)]
  have e : (if j.toNat = 0 ∧ True ∧ cells.length = n * sz then cells else (cells.take (n * sz)).drop (j.toNat * sz)) = cells.drop (j.toNat * sz) := by
    have ht : cells.take (n * sz) = cells := by rw [← hl, List.take_length]
    split
    · rename_i h
      rw [h.1]
      simp
    · rw [ht]
  rw [e]
  simp [tightS]
end
def forceL : List AV → (List AV → Prop) → Prop
  | [], K => K []
  | v :: r, K => v.force fun v' => forceL r fun r' => K (v' :: r')
theorem forceL_eq : ∀ (l : List AV) (K : List AV → Prop), forceL l K = K l
  | [], _ => rfl
  | v :: r, K => by
    rw [forceL, AV.force_eq, forceL_eq r]
/-- Rows of few cells, and rows of these, laid open. -/
def openW (f : List AV → (List AV → Prop) → Prop) : List AV → (List AV → Prop) → Prop
  | [], K => K []
  | v :: r, K => v.force fun v' => match v' with
    | .sl c n t => listK c fun c => f c fun c => openW f r fun r' => K (.sl c n t :: r')
    | v' => openW f r fun r' => K (v' :: r')
def openL : Nat → List AV → (List AV → Prop) → Prop
  | 0, l, K => forceL l K
  | d + 1, l, K => openW (openL d) l K
theorem openW_eq {f : List AV → (List AV → Prop) → Prop} (hf : ∀ l K, f l K = K l) : ∀ (l : List AV) (K : List AV → Prop), openW f l K = K l
  | [], _ => rfl
  | v :: r, K => by
    rw [openW, AV.force_eq]
    cases v with
    | sl c n t =>
      show (listK c fun c => f c fun c => openW f r fun r' => K (.sl c n t :: r')) = _
      rw [listK_eq, hf, openW_eq hf r]
    | _ => exact openW_eq hf r _
theorem openL_eq : ∀ (d : Nat) (l : List AV) (K : List AV → Prop), openL d l K = K l
  | 0, l, K => forceL_eq l K
  | d + 1, l, K => openW_eq (openL_eq d) l K
/-- A call whose rows, of few cells, are handed over as values. -/
theorem call_open {E : Env} {n : Nat} {from_ f : FuncId} {x y as_ : List AV} {h : H} {K : AV → H → Prop} (hraw : E.raw from_ f = false) (hcl : cleanL (argsA h.bs as_).1 = true)
    (hwp : openL 2 (argsA h.bs as_).1 fun as1 => listK (argsA h.bs as_).2 fun bs1 => listK h.esc fun esc => ∃ v h', (evAll E (n + 1)).1 from_ (.fn f x y) as1 ⟨bs1, esc⟩ = some (.ret v, h') ∧ K v h') (hlend : E.lend f = false := by rfl) : ∃ v h', (evAll E (n + 1)).1 from_ (.fn f x y) as_ h = some (.ret v, h') ∧ K v h' := by
  simp only [openL_eq, listK_eq] at hwp
  obtain ⟨v, h', h1, h2⟩ := hwp
  refine ⟨v, h', ?_, h2⟩
  exact (call_args (E := E) (n := n) (from_ := from_) (f := f) (x := x) (y := y) hraw hcl hlend).trans h1
/-- A call whose rows, of few cells, are laid open. -/
theorem call_lay {call : CallF} {from_ : FuncId} {fv : AV} {as_ : List AV} {h : H} {K : AV → H → Prop} (hwp : openL 2 as_ fun as1 => ∃ v h', call from_ fv as1 h = some (.ret v, h') ∧ K v h') : ∃ v h', call from_ fv as_ h = some (.ret v, h') ∧ K v h' := by
  rw [openL_eq] at hwp
  exact hwp
/-- A call whose rows are handed over as values. -/
theorem call_seal {E : Env} {n : Nat} {from_ f : FuncId} {x y as_ : List AV} {h : H} {K : AV → H → Prop} (hraw : E.raw from_ f = false) (hcl : cleanL (argsA h.bs as_).1 = true)
    (hwp : forceL (argsA h.bs as_).1 fun as1 => listK (argsA h.bs as_).2 fun bs1 => listK h.esc fun esc => ∃ v h', (evAll E (n + 1)).1 from_ (.fn f x y) as1 ⟨bs1, esc⟩ = some (.ret v, h') ∧ K v h') (hlend : E.lend f = false := by rfl) : ∃ v h', (evAll E (n + 1)).1 from_ (.fn f x y) as_ h = some (.ret v, h') ∧ K v h' := by
  simp only [forceL_eq, listK_eq] at hwp
  obtain ⟨v, h', h1, h2⟩ := hwp
  refine ⟨v, h', ?_, h2⟩
  exact (call_args (E := E) (n := n) (from_ := from_) (f := f) (x := x) (y := y) hraw hcl hlend).trans h1
/-- A byte of a number. -/
def byteS (n : Int) (s : Nat) : Int := IntKind.wrap .u8 (n.fdiv (2 ^ s))
def be4 (n : Int) : List Int := [byteS n 24, byteS n 16, byteS n 8, byteS n 0]
def be8 (n : Int) : List Int := [byteS n 56, byteS n 48, byteS n 40, byteS n 32, byteS n 24, byteS n 16, byteS n 8, byteS n 0]
theorem put4_c (m : Nat) (from_ : FuncId) (h : H) (n : Int) : evCall TE (m + 10) from_ (.fn 41 [] []) [.int .u32 n] h = some (.ret (.sl (numsA .u8 (be4 (IntKind.wrap .u64 n))) 4 false), h) := by
  skip
  kernel_rfl
def or32 (x y : Int) : Int := IntKind.wrap .u32 ((BitVec.ofInt 32 x ||| BitVec.ofInt 32 y).toNat : Int)
def join32 (x c : Int) : Int := or32 (IntKind.wrap .u32 (x * 2 ^ 8)) (IntKind.wrap .u32 c)
def get4 (a b c d : Int) : Int := join32 (join32 (join32 (join32 0 a) b) c) d
theorem get4_c (m : Nat) (from_ : FuncId) (h : H) (a b c d : Int) (r : List AV) (k : Nat) (t : Bool) (hk : 4 ≤ k) : evCall TE (m + 10) from_ (.fn 35 [] []) [.sl (.int .u8 a :: .int .u8 b :: .int .u8 c :: .int .u8 d :: r) k t] h = some (.ret (.tup [.int .u32 (get4 a b c d), .int .i64 0]), h) := by
  have c1 : ∀ (f : FuncId) (h : H), (evAll TE (m + 9)).1 f (.fn 43 [] []) [.sl (.int .u8 a :: .int .u8 b :: .int .u8 c :: .int .u8 d :: r) k t, .int .i64 4] h = some (.ret (.tup [.int .u32 (get4 a b c d), .int .i64 0]), h) := by
    intro f h
    have hlt : decide ((k : Int) < 4) = false := decide_eq_false (by omega)
    refine call_clean (fn := Try.f43) rfl Try.func43 rfl rfl rfl rfl rfl (Nat.le_of_ble_eq_true rfl) ?_
    conv => whnf
    ((with_reducible cases z0 : decide ((↑k : Int) < Int.ofNat 4)) <;>     try exact Bool.noConfusion (Eq.trans (Eq.symm z0) hlt))
    conv => whnf
    (refine runK_ret (ev_sliceTo (sz := 1) rfl rfl rfl rfl (by decide) (show (4 : Int) ≤ k by omega) (by simp)) ?_)
    conv => whnf
    (refine ⟨(6 : Nat), Nat.le_of_ble_eq_true rfl, ?_⟩)
    conv => whnf
    rfl
  refine call_clean (fn := Try.f35) rfl Try.func35 rfl rfl rfl rfl rfl (Nat.le_of_ble_eq_true rfl) ?_
  conv => whnf
  with_reducible refine ⟨_, _, c1 _ _, ?_⟩
  conv => whnf
theorem get4_short (m : Nat) (from_ : FuncId) (h : H) (v : AV) (k : Nat) (hv : (v = .sl0 ∧ k = 0) ∨ ∃ cells t, v = .sl cells k t) (hk : k < 4) : evCall TE (m + 10) from_ (.fn 35 [] []) [v] h = some (.ret (.tup [.int .u32 0, .int .i64 4]), h) := by
  have hlt : decide ((k : Int) < 4) = true := decide_eq_true (by omega)
  rcases hv with ⟨rfl, rfl⟩ | ⟨cells, t, rfl⟩
  · have c1 : ∀ (f : FuncId) (h : H), (evAll TE (m + 9)).1 f (.fn 43 [] []) [.sl0, .int .i64 4] h = some (.ret (.tup [.int .u32 0, .int .i64 4]), h) := by
      intro f h
      refine call_clean (fn := Try.f43) rfl Try.func43 rfl rfl rfl rfl rfl (Nat.le_of_ble_eq_true rfl) ?_
      conv => whnf
    refine call_clean (fn := Try.f35) rfl Try.func35 rfl rfl rfl rfl rfl (Nat.le_of_ble_eq_true rfl) ?_
    conv => whnf
    with_reducible refine ⟨_, _, c1 _ _, ?_⟩
    conv => whnf
  · have c1 : ∀ (f : FuncId) (h : H), (evAll TE (m + 9)).1 f (.fn 43 [] []) [.sl cells k t, .int .i64 4] h = some (.ret (.tup [.int .u32 0, .int .i64 4]), h) := by
      intro f h
      refine call_clean (fn := Try.f43) rfl Try.func43 rfl rfl rfl rfl rfl (Nat.le_of_ble_eq_true rfl) ?_
      conv => whnf
      ((with_reducible cases z0 : decide ((↑k : Int) < Int.ofNat 4)) <;>     try exact Bool.noConfusion (Eq.trans (Eq.symm z0) hlt))
      conv => whnf
    refine call_clean (fn := Try.f35) rfl Try.func35 rfl rfl rfl rfl rfl (Nat.le_of_ble_eq_true rfl) ?_
    conv => whnf
    with_reducible refine ⟨_, _, c1 _ _, ?_⟩
    conv => whnf
end Go.Proofs.Ytnfkpnfafekflaa.Ab
/- Over the engine: handles. -/
namespace Go.Proofs.Ytnfkpnfafekflaa.Ab
open Go Go.RowKit

set_option maxRecDepth 100000
def xor32 (x y : Int) : Int := IntKind.wrap .u32 ((BitVec.ofInt 32 x ^^^ BitVec.ofInt 32 y).toNat : Int)
def and32 (x y : Int) : Int := IntKind.wrap .u32 ((BitVec.ofInt 32 x &&& BitVec.ofInt 32 y).toNat : Int)
def furS (x : Int) : Int := xor32 (x.fdiv (2 ^ 1)) (and32 (IntKind.wrap .u32 (0 - and32 x 1)) 3988292384)
def furtherS (x : Int) : Int := furS (furS (furS (furS (furS (furS (furS (furS x)))))))
theorem further_c (m : Nat) (from_ : FuncId) (h : H) (x : Int) : evCall TE (m + 1) from_ (.fn 50 [] []) [.int .u32 x] h = some (.ret (.int .u32 (furtherS x)), h) := by
  skip
  kernel_rfl
def crcS (l : List Int) : Int := l.foldl (fun s c => furtherS (xor32 s (IntKind.wrap .u32 c))) 4294967295
def sumS (l : List Int) : Int := xor32 4294967295 (crcS l)
theorem sum_c (m : Nat) (from_ : FuncId) (h : H) (a0 a1 a2 a3 a4 a5 a6 a7 a8 a9 a10 a11 : Int) (t : Bool) : evCall TE (m + 2) from_ (.fn 42 [] []) [.sl [.int .u8 a0, .int .u8 a1, .int .u8 a2, .int .u8 a3, .int .u8 a4, .int .u8 a5, .int .u8 a6, .int .u8 a7, .int .u8 a8, .int .u8 a9, .int .u8 a10, .int .u8 a11] 12 t] h = some (.ret (.int .u32 (sumS [a0, a1, a2, a3, a4, a5, a6, a7, a8, a9, a10, a11])), h) := by
  have c1 : ∀ (f : FuncId) (h : H) (x : Int), (evAll TE (m + 1)).1 f (.fn 50 [] []) [.int .u32 x] h = some (.ret (.int .u32 (furtherS x)), h) := fun f h x => further_c m f h x
  refine call_clean (fn := Try.f42) rfl Try.func42 rfl rfl rfl rfl rfl (Nat.le_of_ble_eq_true rfl) ?_
  conv => whnf
  (refine ⟨(14 : Nat), Nat.le_of_ble_eq_true rfl, ?_⟩)
  conv => whnf
  with_reducible refine ⟨_, _, c1 _ _ _, ?_⟩
  conv => whnf
  with_reducible refine ⟨_, _, c1 _ _ _, ?_⟩
  conv => whnf
  with_reducible refine ⟨_, _, c1 _ _ _, ?_⟩
  conv => whnf
  with_reducible refine ⟨_, _, c1 _ _ _, ?_⟩
  conv => whnf
  with_reducible refine ⟨_, _, c1 _ _ _, ?_⟩
  conv => whnf
  with_reducible refine ⟨_, _, c1 _ _ _, ?_⟩
  conv => whnf
  with_reducible refine ⟨_, _, c1 _ _ _, ?_⟩
  conv => whnf
  with_reducible refine ⟨_, _, c1 _ _ _, ?_⟩
  conv => whnf
  with_reducible refine ⟨_, _, c1 _ _ _, ?_⟩
  conv => whnf
  with_reducible refine ⟨_, _, c1 _ _ _, ?_⟩
  conv => whnf
  with_reducible refine ⟨_, _, c1 _ _ _, ?_⟩
  conv => whnf
  with_reducible refine ⟨_, _, c1 _ _ _, ?_⟩
  conv => whnf
  rfl
theorem concat3_c (m : Nat) (from_ : FuncId) (h : H) (a0 a1 a2 a3 b0 b1 b2 b3 c0 c1 c2 c3 : Int) (t1 t2 t3 t : Bool) : evCall TE (m + 10) from_ (.fn 40 [] []) [.sl [.sl [.int .u8 a0, .int .u8 a1, .int .u8 a2, .int .u8 a3] 4 t1, .sl [.int .u8 b0, .int .u8 b1, .int .u8 b2, .int .u8 b3] 4 t2, .sl [.int .u8 c0, .int .u8 c1, .int .u8 c2, .int .u8 c3] 4 t3] 3 t] h = some (.ret (.sl [.int .u8 a0, .int .u8 a1, .int .u8 a2, .int .u8 a3, .int .u8 b0, .int .u8 b1, .int .u8 b2, .int .u8 b3, .int .u8 c0, .int .u8 c1, .int .u8 c2, .int .u8 c3] 12 false), h) := by
  skip
  kernel_rfl
theorem concat2_c (m : Nat) (from_ : FuncId) (h : H) (a0 a1 a2 a3 a4 a5 a6 a7 a8 a9 a10 a11 b0 b1 b2 b3 : Int) (t1 t2 t : Bool) : evCall TE (m + 10) from_ (.fn 40 [] []) [.sl [.sl [.int .u8 a0, .int .u8 a1, .int .u8 a2, .int .u8 a3, .int .u8 a4, .int .u8 a5, .int .u8 a6, .int .u8 a7, .int .u8 a8, .int .u8 a9, .int .u8 a10, .int .u8 a11] 12 t1, .sl [.int .u8 b0, .int .u8 b1, .int .u8 b2, .int .u8 b3] 4 t2] 2 t] h = some (.ret (.sl [.int .u8 a0, .int .u8 a1, .int .u8 a2, .int .u8 a3, .int .u8 a4, .int .u8 a5, .int .u8 a6, .int .u8 a7, .int .u8 a8, .int .u8 a9, .int .u8 a10, .int .u8 a11, .int .u8 b0, .int .u8 b1, .int .u8 b2, .int .u8 b3] 16 false), h) := by
  skip
  kernel_rfl
theorem clone16_c (m : Nat) (from_ : FuncId) (h : H) (a0 a1 a2 a3 a4 a5 a6 a7 a8 a9 a10 a11 a12 a13 a14 a15 : Int) (t : Bool) : evCall TE (m + 10) from_ (.fn 34 [] []) [.sl [.int .u8 a0, .int .u8 a1, .int .u8 a2, .int .u8 a3, .int .u8 a4, .int .u8 a5, .int .u8 a6, .int .u8 a7, .int .u8 a8, .int .u8 a9, .int .u8 a10, .int .u8 a11, .int .u8 a12, .int .u8 a13, .int .u8 a14, .int .u8 a15] 16 t] h = some (.ret (.sl [.int .u8 a0, .int .u8 a1, .int .u8 a2, .int .u8 a3, .int .u8 a4, .int .u8 a5, .int .u8 a6, .int .u8 a7, .int .u8 a8, .int .u8 a9, .int .u8 a10, .int .u8 a11, .int .u8 a12, .int .u8 a13, .int .u8 a14, .int .u8 a15] 16 false), h) := by
  skip
  kernel_rfl
/-- What stands ahead of a handle's sum. -/
def headS (n g : Int) : List Int := [119, 104, 114, 102] ++ (be4 (IntKind.wrap .u64 n) ++ be4 (IntKind.wrap .u64 g))
def bytesS (n g : Int) : List Int := headS n g ++ be4 (IntKind.wrap .u64 (sumS (headS n g)))
set_option maxHeartbeats 8000000 in
theorem bytes_c (m : Nat) (from_ : FuncId) (h : H) (n g : Int) : evCall TE (m + 11) from_ (.fn 33 [] []) [.int .u32 n, .int .u32 g] h = some (.ret (.agg (numsA .u8 (bytesS n g))), h) := by
  have c1 : ∀ (f : FuncId) (h : H) (n : Int), (evAll TE (m + 10)).1 f (.fn 41 [] []) [.int .u32 n] h = some (.ret (.sl (numsA .u8 (be4 (IntKind.wrap .u64 n))) 4 false), h) := fun f h n => put4_c m f h n
  have c3 : ∀ (f : FuncId) (h : H) (a0 a1 a2 a3 b0 b1 b2 b3 c0 c1 c2 c3 : Int) (t1 t2 t3 t : Bool), (evAll TE (m + 10)).1 f (.fn 40 [] []) [.sl [.sl [.int .u8 a0, .int .u8 a1, .int .u8 a2, .int .u8 a3] 4 t1, .sl [.int .u8 b0, .int .u8 b1, .int .u8 b2, .int .u8 b3] 4 t2, .sl [.int .u8 c0, .int .u8 c1, .int .u8 c2, .int .u8 c3] 4 t3] 3 t] h = some (.ret (.sl [.int .u8 a0, .int .u8 a1, .int .u8 a2, .int .u8 a3, .int .u8 b0, .int .u8 b1, .int .u8 b2, .int .u8 b3, .int .u8 c0, .int .u8 c1, .int .u8 c2, .int .u8 c3] 12 false), h) := fun f h _ _ _ _ _ _ _ _ _ _ _ _ _ _ _ _ => concat3_c m f h ..
  have c4 : ∀ (f : FuncId) (h : H) (a0 a1 a2 a3 a4 a5 a6 a7 a8 a9 a10 a11 b0 b1 b2 b3 : Int) (t1 t2 t : Bool), (evAll TE (m + 10)).1 f (.fn 40 [] []) [.sl [.sl [.int .u8 a0, .int .u8 a1, .int .u8 a2, .int .u8 a3, .int .u8 a4, .int .u8 a5, .int .u8 a6, .int .u8 a7, .int .u8 a8, .int .u8 a9, .int .u8 a10, .int .u8 a11] 12 t1, .sl [.int .u8 b0, .int .u8 b1, .int .u8 b2, .int .u8 b3] 4 t2] 2 t] h = some (.ret (.sl [.int .u8 a0, .int .u8 a1, .int .u8 a2, .int .u8 a3, .int .u8 a4, .int .u8 a5, .int .u8 a6, .int .u8 a7, .int .u8 a8, .int .u8 a9, .int .u8 a10, .int .u8 a11, .int .u8 b0, .int .u8 b1, .int .u8 b2, .int .u8 b3] 16 false), h) := fun f h _ _ _ _ _ _ _ _ _ _ _ _ _ _ _ _ _ _ _ => concat2_c m f h ..
  have c1 : ∀ (f : FuncId) (h : H) (n : Int), (evAll TE (m + 10)).1 f (.fn 41 [] []) [.int .u32 n] h = some (.ret (.sl [.int .u8 (byteS (IntKind.wrap .u64 n) 24), .int .u8 (byteS (IntKind.wrap .u64 n) 16), .int .u8 (byteS (IntKind.wrap .u64 n) 8), .int .u8 (byteS (IntKind.wrap .u64 n) 0)] 4 false), h) := c1
  obtain ⟨s, hs⟩ : ∃ s, s = sumS (headS n g) := ⟨_, rfl⟩
  unfold bytesS
  rw [← hs]
  have c2 : ∀ (f : FuncId) (h : H) (t : Bool), (evAll TE (m + 10)).1 f (.fn 42 [] []) [.sl [.int .u8 119, .int .u8 104, .int .u8 114, .int .u8 102, .int .u8 (byteS (IntKind.wrap .u64 n) 24), .int .u8 (byteS (IntKind.wrap .u64 n) 16), .int .u8 (byteS (IntKind.wrap .u64 n) 8), .int .u8 (byteS (IntKind.wrap .u64 n) 0), .int .u8 (byteS (IntKind.wrap .u64 g) 24), .int .u8 (byteS (IntKind.wrap .u64 g) 16), .int .u8 (byteS (IntKind.wrap .u64 g) 8), .int .u8 (byteS (IntKind.wrap .u64 g) 0)] 12 t] h = some (.ret (.int .u32 s), h) := fun f h t => by
    rw [hs]
    exact sum_c (m + 8) f h 119 104 114 102 _ _ _ _ _ _ _ _ t
  unfold headS be4
  refine call_clean (fn := Try.f33) rfl Try.func33 rfl rfl rfl rfl rfl (Nat.le_of_ble_eq_true rfl) ?_
  conv => whnf
  with_reducible refine ⟨_, _, c1 _ _ _, ?_⟩
  conv => whnf
  with_reducible refine ⟨_, _, c1 _ _ _, ?_⟩
  conv => whnf
  (refine call_open rfl rfl ?_)
  conv => whnf
  with_reducible refine ⟨_, _, c3 _ _ _ _ _ _ _ _ _ _ _ _ _ _ _ _ _ _, ?_⟩
  conv => whnf
  with_reducible refine ⟨_, _, c2 _ _ _, ?_⟩
  conv => whnf
  with_reducible refine ⟨_, _, c1 _ _ _, ?_⟩
  conv => whnf
  (refine call_open rfl rfl ?_)
  conv => whnf
  with_reducible refine ⟨_, _, c4 _ _ _ _ _ _ _ _ _ _ _ _ _ _ _ _ _ _ _ _ _, ?_⟩
  conv => whnf
  rfl
end Go.Proofs.Ytnfkpnfafekflaa.Ab
/- Over the engine: handles put and got; the handle of a node, the node of a handle. -/
namespace Go.Proofs.Ytnfkpnfafekflaa.Ab
open Go Go.RowKit

set_option maxRecDepth 100000
theorem len_cons {α : Type} {l : List α} {n : Nat} (h : l.length = n + 1) : ∃ a r, l = a :: r ∧ r.length = n := by
  cases l with
  | nil => simp at h
  | cons a r => exact ⟨a, r, rfl, by simpa using h⟩
theorem len16 {l : List Int} (h : l.length = 16) : ∃ b0 b1 b2 b3 b4 b5 b6 b7 b8 b9 b10 b11 b12 b13 b14 b15, l = [b0, b1, b2, b3, b4, b5, b6, b7, b8, b9, b10, b11, b12, b13, b14, b15] := by
  obtain ⟨b0, r0, e0, h⟩ := len_cons h
  obtain ⟨b1, r1, e1, h⟩ := len_cons h
  obtain ⟨b2, r2, e2, h⟩ := len_cons h
  obtain ⟨b3, r3, e3, h⟩ := len_cons h
  obtain ⟨b4, r4, e4, h⟩ := len_cons h
  obtain ⟨b5, r5, e5, h⟩ := len_cons h
  obtain ⟨b6, r6, e6, h⟩ := len_cons h
  obtain ⟨b7, r7, e7, h⟩ := len_cons h
  obtain ⟨b8, r8, e8, h⟩ := len_cons h
  obtain ⟨b9, r9, e9, h⟩ := len_cons h
  obtain ⟨b10, r10, e10, h⟩ := len_cons h
  obtain ⟨b11, r11, e11, h⟩ := len_cons h
  obtain ⟨b12, r12, e12, h⟩ := len_cons h
  obtain ⟨b13, r13, e13, h⟩ := len_cons h
  obtain ⟨b14, r14, e14, h⟩ := len_cons h
  obtain ⟨b15, r15, e15, h⟩ := len_cons h
  have := List.eq_nil_of_length_eq_zero h
  exact ⟨_, _, _, _, _, _, _, _, _, _, _, _, _, _, _, _, by rw [e0, e1, e2, e3, e4, e5, e6, e7, e8, e9, e10, e11, e12, e13, e14, e15, this]⟩
def eqL : List Int → List Int → Bool
  | [], [] => true
  | a :: x, b :: y => a == b && eqL x y
  | _, _ => false
theorem eqL_iff : ∀ (x y : List Int), eqL x y = true ↔ x = y
  | [], [] => by simp [eqL]
  | [], _ :: _ => by simp [eqL]
  | _ :: _, [] => by simp [eqL]
  | a :: x, b :: y => by simp [eqL, eqL_iff x y]
theorem putH_c (m : Nat) (from_ : FuncId) (h : H) (n g : Int) (h1 : 1 ≤ n) (h2 : n ≤ 1024) : evCall TE (m + 13) from_ (.fn 23 [] []) [.agg [.int .i64 n, .int .u32 g]] h = some (.ret (.tup [.sl (numsA .u8 (bytesS (IntKind.wrap .u32 n) g)) 16 false, .int .i64 0]), h) := by
  have c1 : ∀ (f : FuncId) (h : H), (evAll TE (m + 12)).1 f (.fn 33 [] []) [.int .u32 (IntKind.wrap .u32 n), .int .u32 g] h = some (.ret (.agg (numsA .u8 (bytesS (IntKind.wrap .u32 n) g))), h) := fun f h => bytes_c (m + 1) f h _ g
  have q1 : decide (n < 1) = false := decide_eq_false (by omega)
  have q2 : decide (n > 1024) = false := decide_eq_false (by omega)
  refine call_clean (fn := Try.f23) rfl Try.func23 rfl rfl rfl rfl rfl (Nat.le_of_ble_eq_true rfl) ?_
  conv => whnf
  ((with_reducible cases z0 : decide (n < Int.ofNat 1)) <;> try exact Bool.noConfusion (Eq.trans (Eq.symm z0) q1))
  conv => whnf
  ((with_reducible cases z1 : decide (n > Int.ofNat 1024)) <;> try exact Bool.noConfusion (Eq.trans (Eq.symm z1) q2))
  conv => whnf
  with_reducible refine ⟨_, _, c1 _ _, ?_⟩
  conv => whnf
  (refine call_inline (fn := Try.f34) rfl Try.func34 rfl rfl ?_)
  conv => whnf
  rfl
/-- The node and the number of a handle. -/
def getHS : List Int → Option (Int × Int)
  | [b0, b1, b2, b3, b4, b5, b6, b7, b8, b9, b10, b11, b12, b13, b14, b15] => if (get4 b4 b5 b6 b7 < 1 || (get4 b4 b5 b6 b7 > 1024 || !eqL (bytesS (get4 b4 b5 b6 b7) (get4 b8 b9 b10 b11)) [b0, b1, b2, b3, b4, b5, b6, b7, b8, b9, b10, b11, b12, b13, b14, b15])) = true then none else some (get4 b4 b5 b6 b7, get4 b8 b9 b10 b11)
  | _ => none
theorem getHS_len {l : List Int} (h : l.length ≠ 16) : getHS l = none := by
  unfold getHS
  split
  · simp at h
  · rfl
def getHA (o : Option (Int × Int)) : AV := match o with
  | some (n, g) => .tup [.agg [.int .i64 (IntKind.wrap .i64 n), .int .u32 g], .int .i64 0]
  | none => .tup [.agg [.int .i64 0, .int .u32 0], .int .i64 5]
set_option maxHeartbeats 8000000 in
theorem getH_c (m : Nat) (from_ : FuncId) (h : H) (v : AV) (l : List Int) (hv : rowOk .u8 v l) : evCall TE (m + 13) from_ (.fn 24 [] []) [v] h = some (.ret (getHA (getHS l)), h) := by
  cases hq : ((l.length : Int) != 16) with
  | true =>
    have hne : l.length ≠ 16 := by
      have : ¬ ((l.length : Int) = 16) := by simpa [bne] using hq
      omega
    rw [getHS_len hne]
    unfold getHA
    rcases hv with ⟨rfl, rfl⟩ | ⟨t, rfl⟩
    · refine call_clean (fn := Try.f24) rfl Try.func24 rfl rfl rfl rfl rfl (Nat.le_of_ble_eq_true rfl) ?_
      conv => whnf
      rfl
    · refine call_clean (fn := Try.f24) rfl Try.func24 rfl rfl rfl rfl rfl (Nat.le_of_ble_eq_true rfl) ?_
      conv => whnf
      ((with_reducible cases z0 : (↑l.length : Int) != Int.ofNat 16) <;>     try exact Bool.noConfusion (Eq.trans (Eq.symm z0) hq))
      conv => whnf
      rfl
  | false =>
    have hl : l.length = 16 := by
      have : ((l.length : Int) = 16) := by simpa [bne] using hq
      omega
    clear hq
    rcases hv with ⟨rfl, rfl⟩ | ⟨t, rfl⟩
    · simp at hl
    obtain ⟨b0, b1, b2, b3, b4, b5, b6, b7, b8, b9, b10, b11, b12, b13, b14, b15, rfl⟩ := len16 hl
    clear hl
    unfold getHS
    dsimp only
    have g1 : ∀ (f : FuncId) (h : H) (k : Nat) (t : Bool), 4 ≤ k → (evAll TE (m + 12)).1 f (.fn 35 [] []) [.sl [.int .u8 b4, .int .u8 b5, .int .u8 b6, .int .u8 b7, .int .u8 b8, .int .u8 b9, .int .u8 b10, .int .u8 b11, .int .u8 b12, .int .u8 b13, .int .u8 b14, .int .u8 b15] k t] h = some (.ret (.tup [.int .u32 (get4 b4 b5 b6 b7), .int .i64 0]), h) := fun f h k t hk => get4_c (m + 2) f h _ _ _ _ _ k t hk
    have g2 : ∀ (f : FuncId) (h : H) (k : Nat) (t : Bool), 4 ≤ k → (evAll TE (m + 12)).1 f (.fn 35 [] []) [.sl [.int .u8 b8, .int .u8 b9, .int .u8 b10, .int .u8 b11, .int .u8 b12, .int .u8 b13, .int .u8 b14, .int .u8 b15] k t] h = some (.ret (.tup [.int .u32 (get4 b8 b9 b10 b11), .int .i64 0]), h) := fun f h k t hk => get4_c (m + 2) f h _ _ _ _ _ k t hk
    generalize get4 b4 b5 b6 b7 = nd at g1 ⊢
    generalize get4 b8 b9 b10 b11 = ge at g2 ⊢
    have c1 : ∀ (f : FuncId) (h : H), (evAll TE (m + 12)).1 f (.fn 33 [] []) [.int .u32 nd, .int .u32 ge] h = some (.ret (.agg (numsA .u8 (bytesS nd ge))), h) := fun f h => bytes_c (m + 1) f h nd ge
    obtain ⟨y0, y1, y2, y3, y4, y5, y6, y7, y8, y9, y10, y11, y12, y13, y14, y15, hy⟩ := len16 (show (bytesS nd ge).length = 16 from rfl)
    rw [hy] at c1 ⊢
    have c1 : ∀ (f : FuncId) (h : H), (evAll TE (m + 12)).1 f (.fn 33 [] []) [.int .u32 nd, .int .u32 ge] h = some (.ret (.agg [.int .u8 y0, .int .u8 y1, .int .u8 y2, .int .u8 y3, .int .u8 y4, .int .u8 y5, .int .u8 y6, .int .u8 y7, .int .u8 y8, .int .u8 y9, .int .u8 y10, .int .u8 y11, .int .u8 y12, .int .u8 y13, .int .u8 y14, .int .u8 y15]), h) := c1
    clear hy
    cases q1 : decide (nd < 1) with
    | true =>
      rw [if_pos (by rw [Bool.true_or])]
      unfold getHA
      refine call_clean (fn := Try.f24) rfl Try.func24 rfl rfl rfl rfl rfl (Nat.le_of_ble_eq_true rfl) ?_
      conv => whnf
      (refine call_lay ?_)
      conv => whnf
      with_reducible refine ⟨_, _, g1 _ _ _ _ (Nat.le_of_ble_eq_true rfl), ?_⟩
      conv => whnf
      (refine call_lay ?_)
      conv => whnf
      with_reducible refine ⟨_, _, g2 _ _ _ _ (Nat.le_of_ble_eq_true rfl), ?_⟩
      conv => whnf
      ((with_reducible cases z0 : decide (nd < Int.ofNat 1)) <;> try exact Bool.noConfusion (Eq.trans (Eq.symm z0) q1))
      conv => whnf
      (refine ⟨by kernel_rfl, ?_⟩)
      conv => whnf
      rfl
    | false =>
      cases q2 : decide (nd > 1024) with
      | true =>
        rw [if_pos (by rw [Bool.true_or, Bool.or_true])]
        unfold getHA
        refine call_clean (fn := Try.f24) rfl Try.func24 rfl rfl rfl rfl rfl (Nat.le_of_ble_eq_true rfl) ?_
        conv => whnf
        (refine call_lay ?_)
        conv => whnf
        with_reducible refine ⟨_, _, g1 _ _ _ _ (Nat.le_of_ble_eq_true rfl), ?_⟩
        conv => whnf
        (refine call_lay ?_)
        conv => whnf
        with_reducible refine ⟨_, _, g2 _ _ _ _ (Nat.le_of_ble_eq_true rfl), ?_⟩
        conv => whnf
        ((with_reducible cases z0 : decide (nd < Int.ofNat 1)) <;> try exact Bool.noConfusion (Eq.trans (Eq.symm z0) q1))
        conv => whnf
        ((with_reducible cases z1 : decide (nd > Int.ofNat 1024)) <;> try exact Bool.noConfusion (Eq.trans (Eq.symm z1) q2))
        conv => whnf
        (refine ⟨by kernel_rfl, ?_⟩)
        conv => whnf
        rfl
      | false =>
        cases q3 : eqL [y0, y1, y2, y3, y4, y5, y6, y7, y8, y9, y10, y11, y12, y13, y14, y15] [b0, b1, b2, b3, b4, b5, b6, b7, b8, b9, b10, b11, b12, b13, b14, b15] with
        | true =>
          rw [if_neg (by simp)]
          unfold getHA
          simp only [eqL] at q3
          refine call_clean (fn := Try.f24) rfl Try.func24 rfl rfl rfl rfl rfl (Nat.le_of_ble_eq_true rfl) ?_
          conv => whnf
          (refine call_lay ?_)
          conv => whnf
          with_reducible refine ⟨_, _, g1 _ _ _ _ (Nat.le_of_ble_eq_true rfl), ?_⟩
          conv => whnf
          (refine call_lay ?_)
          conv => whnf
          with_reducible refine ⟨_, _, g2 _ _ _ _ (Nat.le_of_ble_eq_true rfl), ?_⟩
          conv => whnf
          ((with_reducible cases z0 : decide (nd < Int.ofNat 1)) <;> try exact Bool.noConfusion (Eq.trans (Eq.symm z0) q1))
          conv => whnf
          ((with_reducible cases z1 : decide (nd > Int.ofNat 1024)) <;> try exact Bool.noConfusion (Eq.trans (Eq.symm z1) q2))
          conv => whnf
          with_reducible refine ⟨_, _, c1 _ _, ?_⟩
          conv => whnf
          (refine ⟨by kernel_rfl, ?_⟩)
          conv => whnf
          (refine ⟨by kernel_rfl, ?_⟩)
          conv => whnf
          ((with_reducible         cases z2 :           y0 == b0 &&             (y1 == b1 &&               (y2 == b2 &&                 (y3 == b3 &&                   (y4 == b4 &&                     (y5 == b5 &&                       (y6 == b6 &&                         (y7 == b7 &&                           (y8 == b8 &&                             (y9 == b9 &&                               (y10 == b10 &&                                 (y11 == b11 &&                                   (y12 == b12 && (y13 == b13 && (y14 == b14 && (y15 == b15 && true)))))))))))))))) <;>     try exact Bool.noConfusion (Eq.trans (Eq.symm z2) q3))
          conv => whnf
        | false =>
          rw [if_pos (by simp)]
          unfold getHA
          simp only [eqL] at q3
          refine call_clean (fn := Try.f24) rfl Try.func24 rfl rfl rfl rfl rfl (Nat.le_of_ble_eq_true rfl) ?_
          conv => whnf
          (refine call_lay ?_)
          conv => whnf
          with_reducible refine ⟨_, _, g1 _ _ _ _ (Nat.le_of_ble_eq_true rfl), ?_⟩
          conv => whnf
          (refine call_lay ?_)
          conv => whnf
          with_reducible refine ⟨_, _, g2 _ _ _ _ (Nat.le_of_ble_eq_true rfl), ?_⟩
          conv => whnf
          ((with_reducible cases z0 : decide (nd < Int.ofNat 1)) <;> try exact Bool.noConfusion (Eq.trans (Eq.symm z0) q1))
          conv => whnf
          ((with_reducible cases z1 : decide (nd > Int.ofNat 1024)) <;> try exact Bool.noConfusion (Eq.trans (Eq.symm z1) q2))
          conv => whnf
          with_reducible refine ⟨_, _, c1 _ _, ?_⟩
          conv => whnf
          (refine ⟨by kernel_rfl, ?_⟩)
          conv => whnf
          (refine ⟨by kernel_rfl, ?_⟩)
          conv => whnf
          ((with_reducible         cases z2 :           y0 == b0 &&             (y1 == b1 &&               (y2 == b2 &&                 (y3 == b3 &&                   (y4 == b4 &&                     (y5 == b5 &&                       (y6 == b6 &&                         (y7 == b7 &&                           (y8 == b8 &&                             (y9 == b9 &&                               (y10 == b10 &&                                 (y11 == b11 &&                                   (y12 == b12 && (y13 == b13 && (y14 == b14 && (y15 == b15 && true)))))))))))))))) <;>     try exact Bool.noConfusion (Eq.trans (Eq.symm z2) q3))
          conv => whnf
          rfl
end Go.Proofs.Ytnfkpnfafekflaa.Ab
/- Over the engine: names and paths. -/
namespace Go.Proofs.Ytnfkpnfafekflaa.Ab
open Go Go.RowKit

set_option maxRecDepth 100000
/-- Has a text a byte? -/
def has (s : List UInt8) (c : Int) : Bool := s.any fun b => ((b.toNat : Int) == c)
theorem has_drop {s : List UInt8} {i : Nat} {b : UInt8} {c : Int} (h : s[i]? = some b) : has (s.drop i) c = (((b.toNat : Int) == c) || has (s.drop (i + 1)) c) := by
  obtain ⟨h1, rfl⟩ := List.getElem?_eq_some_iff.1 h
  unfold has
  rw [List.drop_eq_getElem_cons h1, List.any_cons]
section
variable {P : Program} {flat : TypeId → Option (List Nat)} {nid : Nat} {ρ : Operand → AV}
theorem ev_indexStr {t : TypeId} {a b : Operand} {s : List UInt8} {k : IntKind} {i : Int} {x : UInt8} (ht : P.underlying t = some .string) (ha : ρ a = .str s) (hb : ρ b = .int k i) (h0 : 0 ≤ i) (hx : s[i.toNat]? = some x) : evOp P flat nid (.index t a b) ρ = .ret (.int .u8 x.toNat, .none) := by
  simp only [evOp, indexA, ha, hb, ht, hx, pur]
  rw [if_pos h0]
end
def hasS (s : List UInt8) (c : Int) (row : AV) (N : Int) (j : Int) (i : Int) : ST :=
  ⟨RG.of 27 [(15, .int .i64 i), (14, .int .i64 s.length), (9, .int .i64 j), (8, .int .i64 N), (7, row), (5, .int .u8 c), (0, .str s)], ⟨[], []⟩⟩
set_option maxHeartbeats 4000000 in
theorem breaks_two (m : Nat) (from_ : FuncId) (h : H) (s : List UInt8) (tt : Bool) (hl : s.length ≤ 140737488351232) : evCall TE (m + 1) from_ (.fn 46 [] [.vref [(.sl [.int .u8 0, .int .u8 47] 2 tt)] 0]) [.str s] h = some (.ret (.bool (has s 0 || (has s 47 || s == []))), h) := by
  obtain ⟨r, hr⟩ : ∃ r, r = (has s 0 || (has s 47 || s == [])) := ⟨_, rfl⟩
  rw [← hr]
  refine call_clean (fn := Try.f46) rfl Try.func46 rfl rfl rfl rfl rfl (Nat.le_of_ble_eq_true rfl) ?_
  conv => whnf
  (with_reducible refine ⟨(3 : Nat), ?_, ?_⟩; · exact Nat.le_of_ble_eq_true rfl)
  conv => whnf
  refine ⟨s.length + 1, by show s.length + 1 ≤ 4611686018427387904; omega, ?_⟩
  refine rounds_ind (hasS s 0 (.sl [.int .u8 0, .int .u8 47] 2 tt) 2 0) (fun i => 0 ≤ i ∧ i ≤ s.length ∧ has s 0 = has (s.drop i.toNat) 0) (fun i => (s.length - i).toNat) ?_ _ 0 _ ⟨by omega, by omega, rfl⟩ (by omega) (by kernel_rfl)
  intro i m' hI ih
  obtain ⟨hI0, hI1, hI2⟩ := hI
  conv => whnf
  cases h1 : decide (i < (s.length : Int)) with
  | false =>
    have h1 := of_decide_eq_false h1
    have hf0 : has s 0 = false := by rw [hI2, List.drop_eq_nil_of_le (by omega)]; rfl
    clear ih hI0 hI1 hI2 h1
    conv => whnf
    refine ⟨s.length + 1, by show s.length + 1 ≤ 4611686018427387904; omega, ?_⟩
    refine rounds_ind (hasS s 47 (.sl [.int .u8 0, .int .u8 47] 2 tt) 2 1) (fun i => 0 ≤ i ∧ i ≤ s.length ∧ has s 47 = has (s.drop i.toNat) 47) (fun i => (s.length - i).toNat) ?_ _ 0 _ ⟨by omega, by omega, rfl⟩ (by omega) (by kernel_rfl)
    intro i m' hI ih
    obtain ⟨hI0, hI1, hI2⟩ := hI
    conv => whnf
    cases h1 : decide (i < (s.length : Int)) with
    | false =>
      have h1 := of_decide_eq_false h1
      have hf1 : has s 47 = false := by rw [hI2, List.drop_eq_nil_of_le (by omega)]; rfl
      clear ih hI0 hI1 hI2 h1
      conv => whnf
      (rw [hr]; simp_all; done)
    | true =>
      have h1 := of_decide_eq_true h1
      obtain ⟨b, hb⟩ : ∃ b, s[i.toNat]? = some b := ⟨_, List.getElem?_eq_getElem (by omega)⟩
      rw [has_drop hb] at hI2
      have hw : IntKind.wrap .i64 (i + 1) = i + 1 := wrap64 (by omega) (by omega)
      have hmu : (s.length - IntKind.wrap .i64 (i + 1)).toNat < (s.length - i).toNat := by rw [hw]; omega
      have hst : ((b.toNat : Int) == 47) = false → 0 ≤ IntKind.wrap .i64 (i + 1) ∧ IntKind.wrap .i64 (i + 1) ≤ s.length ∧ has s 47 = has (s.drop (IntKind.wrap .i64 (i + 1)).toNat) 47 := by
        intro he
        rw [he, Bool.false_or] at hI2
        rw [hw, show (i + 1).toNat = i.toNat + 1 by omega]
        exact ⟨by omega, by omega, hI2⟩
      have hfa : ((b.toNat : Int) == 47) = true → r = true := by
        intro he
        rw [hr, hI2, he]
        simp
      conv => whnf
      (refine runK_ret (ev_indexStr rfl rfl rfl hI0 hb) ?_)
      conv => whnf
      cases z0 : ↑b.toNat == Int.ofNat 47
      · conv => whnf
        (exact ih (IntKind.wrap .i64 (i + 1)) _ (hst ‹_›) hmu (by kernel_rfl))
      · conv => whnf
        (rw [hfa ‹_›])
  | true =>
    have h1 := of_decide_eq_true h1
    obtain ⟨b, hb⟩ : ∃ b, s[i.toNat]? = some b := ⟨_, List.getElem?_eq_getElem (by omega)⟩
    rw [has_drop hb] at hI2
    have hw : IntKind.wrap .i64 (i + 1) = i + 1 := wrap64 (by omega) (by omega)
    have hmu : (s.length - IntKind.wrap .i64 (i + 1)).toNat < (s.length - i).toNat := by rw [hw]; omega
    have hst : ((b.toNat : Int) == 0) = false → 0 ≤ IntKind.wrap .i64 (i + 1) ∧ IntKind.wrap .i64 (i + 1) ≤ s.length ∧ has s 0 = has (s.drop (IntKind.wrap .i64 (i + 1)).toNat) 0 := by
      intro he
      rw [he, Bool.false_or] at hI2
      rw [hw, show (i + 1).toNat = i.toNat + 1 by omega]
      exact ⟨by omega, by omega, hI2⟩
    have hfa : ((b.toNat : Int) == 0) = true → r = true := by
      intro he
      rw [hr, hI2, he]
      simp
    conv => whnf
    (refine runK_ret (ev_indexStr rfl rfl rfl hI0 hb) ?_)
    conv => whnf
    cases z0 : ↑b.toNat == Int.ofNat 0
    · conv => whnf
      (exact ih (IntKind.wrap .i64 (i + 1)) _ (hst ‹_›) hmu (by kernel_rfl))
    · conv => whnf
      (rw [hfa ‹_›])
set_option maxHeartbeats 4000000 in
theorem breaks_one (m : Nat) (from_ : FuncId) (h : H) (s : List UInt8) (tt : Bool) (hl : s.length ≤ 140737488351232) : evCall TE (m + 1) from_ (.fn 46 [] [.vref [(.sl [.int .u8 0] 1 tt)] 0]) [.str s] h = some (.ret (.bool (has s 0 || s == [])), h) := by
  obtain ⟨r, hr⟩ : ∃ r, r = (has s 0 || s == []) := ⟨_, rfl⟩
  rw [← hr]
  refine call_clean (fn := Try.f46) rfl Try.func46 rfl rfl rfl rfl rfl (Nat.le_of_ble_eq_true rfl) ?_
  conv => whnf
  (with_reducible refine ⟨(2 : Nat), ?_, ?_⟩; · exact Nat.le_of_ble_eq_true rfl)
  conv => whnf
  refine ⟨s.length + 1, by show s.length + 1 ≤ 4611686018427387904; omega, ?_⟩
  refine rounds_ind (hasS s 0 (.sl [.int .u8 0] 1 tt) 1 0) (fun i => 0 ≤ i ∧ i ≤ s.length ∧ has s 0 = has (s.drop i.toNat) 0) (fun i => (s.length - i).toNat) ?_ _ 0 _ ⟨by omega, by omega, rfl⟩ (by omega) (by kernel_rfl)
  intro i m' hI ih
  obtain ⟨hI0, hI1, hI2⟩ := hI
  conv => whnf
  cases h1 : decide (i < (s.length : Int)) with
  | false =>
    have h1 := of_decide_eq_false h1
    have hf0 : has s 0 = false := by rw [hI2, List.drop_eq_nil_of_le (by omega)]; rfl
    clear ih hI0 hI1 hI2 h1
    conv => whnf
    (rw [hr]; simp_all; done)
  | true =>
    have h1 := of_decide_eq_true h1
    obtain ⟨b, hb⟩ : ∃ b, s[i.toNat]? = some b := ⟨_, List.getElem?_eq_getElem (by omega)⟩
    rw [has_drop hb] at hI2
    have hw : IntKind.wrap .i64 (i + 1) = i + 1 := wrap64 (by omega) (by omega)
    have hmu : (s.length - IntKind.wrap .i64 (i + 1)).toNat < (s.length - i).toNat := by rw [hw]; omega
    have hst : ((b.toNat : Int) == 0) = false → 0 ≤ IntKind.wrap .i64 (i + 1) ∧ IntKind.wrap .i64 (i + 1) ≤ s.length ∧ has s 0 = has (s.drop (IntKind.wrap .i64 (i + 1)).toNat) 0 := by
      intro he
      rw [he, Bool.false_or] at hI2
      rw [hw, show (i + 1).toNat = i.toNat + 1 by omega]
      exact ⟨by omega, by omega, hI2⟩
    have hfa : ((b.toNat : Int) == 0) = true → r = true := by
      intro he
      rw [hr, hI2, he]
      simp
    conv => whnf
    (refine runK_ret (ev_indexStr rfl rfl rfl hI0 hb) ?_)
    conv => whnf
    cases z0 : ↑b.toNat == Int.ofNat 0
    · conv => whnf
      (exact ih (IntKind.wrap .i64 (i + 1)) _ (hst ‹_›) hmu (by kernel_rfl))
    · conv => whnf
      (rw [hfa ‹_›])
end Go.Proofs.Ytnfkpnfafekflaa.Ab
/- Over the engine: names, paths; what nodes of a kind have. -/
namespace Go.Proofs.Ytnfkpnfafekflaa.Ab
open Go Go.RowKit

set_option maxRecDepth 100000
def ruleA (row : AV) (most : Int) : AV := .agg [.fn 46 [] [.vref [row] 0], .int .u32 22, .fn 47 [] [.vref [.int .i64 most] 0], .int .u32 63]
theorem longer_c (m : Nat) (from_ : FuncId) (h : H) (s : List UInt8) (most : Int) : evCall TE (m + 1) from_ (.fn 47 [] [.vref [.int .i64 most] 0]) [.str s] h = some (.ret (.bool (decide ((s.length : Int) > most))), h) := by
  refine call_clean (fn := Try.f47) rfl Try.func47 rfl rfl rfl rfl rfl (Nat.le_of_ble_eq_true rfl) ?_
  conv => whnf
def nameSt (s : List UInt8) : Int := if (has s 0 || (has s 47 || s == [])) = true then 22 else if decide ((s.length : Int) > 255) = true then 63 else 0
def pathSt (s : List UInt8) : Int := if (has s 0 || s == []) = true then 22 else if decide ((s.length : Int) > 1024) = true then 63 else 0
theorem is_name (m : Nat) (from_ : FuncId) (h : H) (s : List UInt8) (hl : s.length ≤ 140737488351232) : evCall TE (m + 2) from_ (.fn 38 [] []) [.str s, ruleA (.sl [.int .u8 0, .int .u8 47] 2 true) 255] h = some (.ret (.int .u32 (nameSt s)), h) := by
  have c1 : ∀ (f : FuncId) (h : H), (evAll TE (m + 1)).1 f (.fn 46 [] [.vref [.sl [.int .u8 0, .int .u8 47] 2 true] 0]) [.str s] h = some (.ret (.bool (has s 0 || (has s 47 || s == []))), h) := fun f h => breaks_two m f h s true hl
  have c2 : ∀ (f : FuncId) (h : H), (evAll TE (m + 1)).1 f (.fn 47 [] [.vref [.int .i64 255] 0]) [.str s] h = some (.ret (.bool (decide ((s.length : Int) > 255))), h) := fun f h => longer_c m f h s 255
  obtain ⟨r, hr⟩ : ∃ r, r = nameSt s := ⟨_, rfl⟩
  rw [← hr]
  unfold nameSt at hr
  generalize (has s 0 || (has s 47 || s == [])) = q1 at c1 hr
  generalize decide ((s.length : Int) > 255) = q2 at c2 hr
  unfold ruleA
  refine call_clean (fn := Try.f38) rfl Try.func38 rfl rfl rfl rfl rfl (Nat.le_of_ble_eq_true rfl) ?_
  conv => whnf
  (with_reducible refine ⟨(3 : Nat), ?_, ?_⟩; · exact Nat.le_of_ble_eq_true rfl)
  conv => whnf
  with_reducible refine ⟨_, _, c1 _ _, ?_⟩
  conv => whnf
  cases q1
  · conv => whnf
    with_reducible refine ⟨_, _, c2 _ _, ?_⟩
    conv => whnf
    cases q2
    · conv => whnf
      (rw [hr]; simp_all; done)
    · conv => whnf
      (rw [hr]; simp_all; done)
  · conv => whnf
    (rw [hr]; simp_all; done)
theorem without_name (m : Nat) (from_ : FuncId) : evCall TE (m + 2) from_ (.fn 39 [] []) [.int .i64 255, .rsl 0 0 2 (some 2) 0] ⟨[.cells [.int .u8 0, .int .u8 47] ⟨false, 1, false, true⟩], []⟩ = some (.ret (ruleA (.sl [.int .u8 0, .int .u8 47] 2 true) 255), ⟨[.cells [.int .u8 0, .int .u8 47] ⟨true, 1, false, false⟩], []⟩) := by
  skip
  kernel_rfl
theorem is_path (m : Nat) (from_ : FuncId) (h : H) (s : List UInt8) (hl : s.length ≤ 140737488351232) : evCall TE (m + 2) from_ (.fn 38 [] []) [.str s, ruleA (.sl [.int .u8 0] 1 true) 1024] h = some (.ret (.int .u32 (pathSt s)), h) := by
  have c1 : ∀ (f : FuncId) (h : H), (evAll TE (m + 1)).1 f (.fn 46 [] [.vref [.sl [.int .u8 0] 1 true] 0]) [.str s] h = some (.ret (.bool (has s 0 || s == [])), h) := fun f h => breaks_one m f h s true hl
  have c2 : ∀ (f : FuncId) (h : H), (evAll TE (m + 1)).1 f (.fn 47 [] [.vref [.int .i64 1024] 0]) [.str s] h = some (.ret (.bool (decide ((s.length : Int) > 1024))), h) := fun f h => longer_c m f h s 1024
  obtain ⟨r, hr⟩ : ∃ r, r = pathSt s := ⟨_, rfl⟩
  rw [← hr]
  unfold pathSt at hr
  generalize (has s 0 || s == []) = q1 at c1 hr
  generalize decide ((s.length : Int) > 1024) = q2 at c2 hr
  unfold ruleA
  refine call_clean (fn := Try.f38) rfl Try.func38 rfl rfl rfl rfl rfl (Nat.le_of_ble_eq_true rfl) ?_
  conv => whnf
  (with_reducible refine ⟨(3 : Nat), ?_, ?_⟩; · exact Nat.le_of_ble_eq_true rfl)
  conv => whnf
  with_reducible refine ⟨_, _, c1 _ _, ?_⟩
  conv => whnf
  cases q1
  · conv => whnf
    with_reducible refine ⟨_, _, c2 _ _, ?_⟩
    conv => whnf
    cases q2
    · conv => whnf
      (rw [hr]; simp_all; done)
    · conv => whnf
      (rw [hr]; simp_all; done)
  · conv => whnf
    (rw [hr]; simp_all; done)
theorem without_path (m : Nat) (from_ : FuncId) : evCall TE (m + 2) from_ (.fn 39 [] []) [.int .i64 1024, .rsl 0 0 1 (some 1) 0] ⟨[.cells [.int .u8 0] ⟨false, 1, false, true⟩], []⟩ = some (.ret (ruleA (.sl [.int .u8 0] 1 true) 1024), ⟨[.cells [.int .u8 0] ⟨true, 1, false, false⟩], []⟩) := by
  skip
  kernel_rfl
theorem name_c (m : Nat) (from_ : FuncId) (h : H) (s : List UInt8) (hl : s.length ≤ 140737488351232) : evCall TE (m + 4) from_ (.fn 32 [] []) [.str s] h = some (.ret (.int .u32 (nameSt s)), h) := by
  have c1 : ∀ (f : FuncId), (evAll TE (m + 3)).1 f (.fn 39 [] []) [.int .i64 255, .rsl 0 0 2 (some 2) 0] ⟨[.cells [.int .u8 0, .int .u8 47] ⟨false, 1, false, true⟩], []⟩ = some (.ret (ruleA (.sl [.int .u8 0, .int .u8 47] 2 true) 255), ⟨[.cells [.int .u8 0, .int .u8 47] ⟨true, 1, false, false⟩], []⟩) := fun f => without_name (m + 1) f
  have c2 : ∀ (f : FuncId) (h : H), (evAll TE (m + 3)).1 f (.fn 38 [] []) [.str s, ruleA (.sl [.int .u8 0, .int .u8 47] 2 true) 255] h = some (.ret (.int .u32 (nameSt s)), h) := fun f h => is_name (m + 1) f h s hl
  generalize nameSt s = r at c2 ⊢
  unfold ruleA at c1 c2
  refine call_clean (fn := Try.f32) rfl Try.func32 rfl rfl rfl rfl rfl (Nat.le_of_ble_eq_true rfl) ?_
  conv => whnf
  (refine ⟨_, _, c1 _, ?_⟩)
  conv => whnf
  with_reducible refine ⟨_, _, c2 _ _, ?_⟩
  conv => whnf
theorem path_c (m : Nat) (from_ : FuncId) (h : H) (s : List UInt8) (hl : s.length ≤ 140737488351232) : evCall TE (m + 4) from_ (.fn 30 [] []) [.str s] h = some (.ret (.int .u32 (pathSt s)), h) := by
  have c1 : ∀ (f : FuncId), (evAll TE (m + 3)).1 f (.fn 39 [] []) [.int .i64 1024, .rsl 0 0 1 (some 1) 0] ⟨[.cells [.int .u8 0] ⟨false, 1, false, true⟩], []⟩ = some (.ret (ruleA (.sl [.int .u8 0] 1 true) 1024), ⟨[.cells [.int .u8 0] ⟨true, 1, false, false⟩], []⟩) := fun f => without_path (m + 1) f
  have c2 : ∀ (f : FuncId) (h : H), (evAll TE (m + 3)).1 f (.fn 38 [] []) [.str s, ruleA (.sl [.int .u8 0] 1 true) 1024] h = some (.ret (.int .u32 (pathSt s)), h) := fun f h => is_path (m + 1) f h s hl
  generalize pathSt s = r at c2 ⊢
  unfold ruleA at c1 c2
  refine call_clean (fn := Try.f30) rfl Try.func30 rfl rfl rfl rfl rfl (Nat.le_of_ble_eq_true rfl) ?_
  conv => whnf
  (refine ⟨_, _, c1 _, ?_⟩)
  conv => whnf
  with_reducible refine ⟨_, _, c2 _ _, ?_⟩
  conv => whnf
theorem is_c (m : Nat) (from_ : FuncId) (h : H) (ns : List NodeS) (t : Bool) (gen n k : Int) : evCall TE (m + 2) from_ (.fn 14 [] []) [.agg [.sl (nodesA ns) ns.length t, .int .u32 gen], .int .i64 n, .int .u32 k] h = some (.ret (.bool (thereS ns n && kindS ns n == k)), h) := by
  have c1 : ∀ (f : FuncId) (h : H), (evAll TE (m + 1)).1 f (.fn 15 [] []) [.agg [.sl (nodesA ns) ns.length t, .int .u32 gen], .int .i64 n] h = some (.ret (.bool (thereS ns n)), h) := fun f h => there_c m f h _ ns (.inr ⟨t, rfl⟩) gen n
  cases hn : thereS ns n with
  | false =>
    rw [hn] at c1
    refine call_clean (fn := Try.f14) rfl Try.func14 rfl rfl rfl rfl rfl (Nat.le_of_ble_eq_true rfl) ?_
    conv => whnf
    with_reducible refine ⟨_, _, c1 _ _, ?_⟩
    conv => whnf
    rfl
  | true =>
    rw [hn] at c1
    have hn2 := hn
    unfold thereS at hn2
    rw [Bool.and_eq_true, Bool.and_eq_true, decide_eq_true_eq, decide_eq_true_eq] at hn2
    have hn0 : 0 ≤ n := by omega
    have hn1 := hn2.2.1
    obtain ⟨x, hx⟩ : ∃ x, ns[n.toNat]? = some x := ⟨_, List.getElem?_eq_getElem (by omega)⟩
    have hk : kindS ns n = x.kind := by unfold kindS; rw [hx]
    rw [hk]
    refine call_clean (fn := Try.f14) rfl Try.func14 rfl rfl rfl rfl rfl (Nat.le_of_ble_eq_true rfl) ?_
    conv => whnf
    with_reducible refine ⟨_, _, c1 _ _, ?_⟩
    conv => whnf
    (refine runK_ret (ev_indexSl (sz := 25) rfl rfl rfl rfl hn0 hn1) ?_)
    conv => whnf
    (refine runK_ret (ev_loadV (z := 1) rfl rfl rfl ((nodesA_cell hx 0 (by decide)).trans rfl)) ?_)
    conv => whnf
    rfl
def zeroVerf (x : NodeS) : Bool := x.verf 0 == 0 && (x.verf 1 == 0 && (x.verf 2 == 0 && (x.verf 3 == 0 && (x.verf 4 == 0 && (x.verf 5 == 0 && (x.verf 6 == 0 && (x.verf 7 == 0 && true)))))))
def fileO (x : NodeS) : Bool := ((x.bytes.length : Int) == 0) && zeroVerf x
def listO (x : NodeS) : Bool := ((x.ents.length : Int) == 0) && (x.parent == 0 && x.next == 0)
def onlyS (x : NodeS) : Bool :=
  if (x.kind == 0) = true then fileO x && (x.target == [] && (listO x && ((bor .u32 (bor .u32 (bor .u32 x.gen x.mode) x.user) x.group == 0) && (x.links == 0 && ((x.rs == 0 && (x.rn == 0 && true)) && ((x.ws == 0 && (x.wn == 0 && true)) && (x.ts == 0 && (x.tn == 0 && true))))))))
  else if (x.kind == 1) = true then x.target == [] && (listO x && decide ((x.bytes.length : Int) ≤ 65536))
  else if (x.kind == 5) = true then fileO x && (listO x && pathSt x.target == 0)
  else x.kind == 2 && (fileO x && x.target == [])
set_option maxHeartbeats 8000000 in
theorem only_c (m : Nat) (from_ : FuncId) (h : H) (x : NodeS) (hx : x.ok) (hl : x.target.length ≤ 140737488351232) : evCall TE (m + 5) from_ (.fn 18 [] []) [.agg (nodeA x)] h = some (.ret (.bool (onlyS x)), h) := by
  have c1 : ∀ (f : FuncId) (h : H), (evAll TE (m + 4)).1 f (.fn 30 [] []) [.str x.target] h = some (.ret (.int .u32 (pathSt x.target)), h) := fun f h => path_c m f h x.target hl
  obtain ⟨r, hr⟩ : ∃ r, r = onlyS x := ⟨_, rfl⟩
  rw [← hr]
  unfold onlyS at hr
  obtain ⟨qp, hqp⟩ : ∃ q, q = pathSt x.target := ⟨_, rfl⟩
  rw [← hqp] at c1 hr
  clear hqp hl
  unfold fileO listO zeroVerf bor at hr
  obtain ⟨kd, ge, mo, us, ng, li, xrs, xrn, xws, xwn, ts, tn, da, by_, vf, ta, ls, es, pa, nx⟩ := x
  simp only [NodeS.ok, rowOk, entsOk] at hx
  obtain ⟨hd, hl⟩ := hx
  dsimp only at c1 hr
  rcases hd with ⟨rfl, rfl⟩ | ⟨dt, rfl⟩ <;> rcases hl with ⟨rfl, rfl⟩ | ⟨lt, rfl⟩
  all_goals refine call_clean (fn := Try.f18) rfl Try.func18 rfl rfl rfl rfl rfl (Nat.le_of_ble_eq_true rfl) ?_
  · conv => whnf
    cases z0 : pa == Int.ofNat 0
    · conv => whnf
      cases z1 : kd == Int.ofNat 0
      · conv => whnf
        cases z2 : kd == Int.ofNat 1
        · conv => whnf
          cases z3 : kd == Int.ofNat 5
          · conv => whnf
            cases z4 : kd == Int.ofNat 2
            · conv => whnf
              (rw [hr]; simp_all; done)
            · conv => whnf
              cases z5 :   vf 0 == Int.ofNat 0 &&     (vf 1 == Int.ofNat 0 &&       (vf 2 == Int.ofNat 0 &&         (vf 3 == Int.ofNat 0 &&           (vf 4 == Int.ofNat 0 && (vf 5 == Int.ofNat 0 && (vf 6 == Int.ofNat 0 && (vf 7 == Int.ofNat 0 && true)))))))
              · conv => whnf
                (rw [hr]; simp_all; done)
              · conv => whnf
                (rw [hr]; simp_all; done)
          · conv => whnf
            cases z6 :   vf 0 == Int.ofNat 0 &&     (vf 1 == Int.ofNat 0 &&       (vf 2 == Int.ofNat 0 &&         (vf 3 == Int.ofNat 0 &&           (vf 4 == Int.ofNat 0 && (vf 5 == Int.ofNat 0 && (vf 6 == Int.ofNat 0 && (vf 7 == Int.ofNat 0 && true)))))))
            · conv => whnf
              (rw [hr]; simp_all; done)
            · conv => whnf
              (rw [hr]; simp_all; done)
        · conv => whnf
          cases z7 : ta == []
          · conv => whnf
            (rw [hr]; simp_all; done)
          · conv => whnf
            (rw [hr]; simp_all; done)
      · conv => whnf
        cases z8 :   vf 0 == Int.ofNat 0 &&     (vf 1 == Int.ofNat 0 &&       (vf 2 == Int.ofNat 0 &&         (vf 3 == Int.ofNat 0 &&           (vf 4 == Int.ofNat 0 && (vf 5 == Int.ofNat 0 && (vf 6 == Int.ofNat 0 && (vf 7 == Int.ofNat 0 && true)))))))
        · conv => whnf
          (rw [hr]; simp_all; done)
        · conv => whnf
          cases z9 : ta == []
          · conv => whnf
            (rw [hr]; simp_all; done)
          · conv => whnf
            (rw [hr]; simp_all; done)
    · conv => whnf
      cases z10 : kd == Int.ofNat 0
      · conv => whnf
        cases z11 : kd == Int.ofNat 1
        · conv => whnf
          cases z12 : kd == Int.ofNat 5
          · conv => whnf
            cases z13 : kd == Int.ofNat 2
            · conv => whnf
              (rw [hr]; simp_all; done)
            · conv => whnf
              cases z14 :   vf 0 == Int.ofNat 0 &&     (vf 1 == Int.ofNat 0 &&       (vf 2 == Int.ofNat 0 &&         (vf 3 == Int.ofNat 0 &&           (vf 4 == Int.ofNat 0 && (vf 5 == Int.ofNat 0 && (vf 6 == Int.ofNat 0 && (vf 7 == Int.ofNat 0 && true)))))))
              · conv => whnf
                (rw [hr]; simp_all; done)
              · conv => whnf
                (rw [hr]; simp_all; done)
          · conv => whnf
            cases z15 :   vf 0 == Int.ofNat 0 &&     (vf 1 == Int.ofNat 0 &&       (vf 2 == Int.ofNat 0 &&         (vf 3 == Int.ofNat 0 &&           (vf 4 == Int.ofNat 0 && (vf 5 == Int.ofNat 0 && (vf 6 == Int.ofNat 0 && (vf 7 == Int.ofNat 0 && true)))))))
            · conv => whnf
              (rw [hr]; simp_all; done)
            · conv => whnf
              cases z16 : nx == Int.ofNat 0
              · conv => whnf
                (rw [hr]; simp_all; done)
              · conv => whnf
                with_reducible refine ⟨_, _, c1 _ _, ?_⟩
                conv => whnf
                (rw [hr]; simp_all; done)
        · conv => whnf
          cases z17 : ta == []
          · conv => whnf
            (rw [hr]; simp_all; done)
          · conv => whnf
            cases z18 : nx == Int.ofNat 0
            · conv => whnf
              (rw [hr]; simp_all; done)
            · conv => whnf
              (rw [hr]; simp_all; done)
      · conv => whnf
        cases z19 :   vf 0 == Int.ofNat 0 &&     (vf 1 == Int.ofNat 0 &&       (vf 2 == Int.ofNat 0 &&         (vf 3 == Int.ofNat 0 &&           (vf 4 == Int.ofNat 0 && (vf 5 == Int.ofNat 0 && (vf 6 == Int.ofNat 0 && (vf 7 == Int.ofNat 0 && true)))))))
        · conv => whnf
          (rw [hr]; simp_all; done)
        · conv => whnf
          cases z20 : ta == []
          · conv => whnf
            (rw [hr]; simp_all; done)
          · conv => whnf
            cases z21 : nx == Int.ofNat 0
            · conv => whnf
              (rw [hr]; simp_all; done)
            · conv => whnf
              cases z22 :   IntKind.u32.wrap       ↑(BitVec.ofInt IntKind.u32.bits               (IntKind.u32.wrap                 ↑(BitVec.ofInt IntKind.u32.bits                         (IntKind.u32.wrap                           ↑(BitVec.ofInt IntKind.u32.bits ge ||| BitVec.ofInt IntKind.u32.bits mo).toNat) |||                       BitVec.ofInt IntKind.u32.bits us).toNat) |||             BitVec.ofInt IntKind.u32.bits ng).toNat ==     Int.ofNat 0
              · conv => whnf
                (rw [hr]; simp_all; done)
              · conv => whnf
                cases z23 : li == Int.ofNat 0
                · conv => whnf
                  (rw [hr]; simp_all; done)
                · conv => whnf
                  cases z24 : xrs == Int.ofNat 0 && (xrn == Int.ofNat 0 && true)
                  · conv => whnf
                    (rw [hr]; simp_all; done)
                  · conv => whnf
                    cases z25 : xws == Int.ofNat 0 && (xwn == Int.ofNat 0 && true)
                    · conv => whnf
                      (rw [hr]; simp_all; done)
                    · conv => whnf
                      (rw [hr]; simp_all; done)
  · conv => whnf
    cases z0 : ↑es.length == Int.ofNat 0
    · conv => whnf
      cases z1 : kd == Int.ofNat 0
      · conv => whnf
        cases z2 : kd == Int.ofNat 1
        · conv => whnf
          cases z3 : kd == Int.ofNat 5
          · conv => whnf
            cases z4 : kd == Int.ofNat 2
            · conv => whnf
              (rw [hr]; simp_all; done)
            · conv => whnf
              cases z5 :   vf 0 == Int.ofNat 0 &&     (vf 1 == Int.ofNat 0 &&       (vf 2 == Int.ofNat 0 &&         (vf 3 == Int.ofNat 0 &&           (vf 4 == Int.ofNat 0 && (vf 5 == Int.ofNat 0 && (vf 6 == Int.ofNat 0 && (vf 7 == Int.ofNat 0 && true)))))))
              · conv => whnf
                (rw [hr]; simp_all; done)
              · conv => whnf
                (rw [hr]; simp_all; done)
          · conv => whnf
            cases z6 :   vf 0 == Int.ofNat 0 &&     (vf 1 == Int.ofNat 0 &&       (vf 2 == Int.ofNat 0 &&         (vf 3 == Int.ofNat 0 &&           (vf 4 == Int.ofNat 0 && (vf 5 == Int.ofNat 0 && (vf 6 == Int.ofNat 0 && (vf 7 == Int.ofNat 0 && true)))))))
            · conv => whnf
              (rw [hr]; simp_all; done)
            · conv => whnf
              (rw [hr]; simp_all; done)
        · conv => whnf
          cases z7 : ta == []
          · conv => whnf
            (rw [hr]; simp_all; done)
          · conv => whnf
            (rw [hr]; simp_all; done)
      · conv => whnf
        cases z8 :   vf 0 == Int.ofNat 0 &&     (vf 1 == Int.ofNat 0 &&       (vf 2 == Int.ofNat 0 &&         (vf 3 == Int.ofNat 0 &&           (vf 4 == Int.ofNat 0 && (vf 5 == Int.ofNat 0 && (vf 6 == Int.ofNat 0 && (vf 7 == Int.ofNat 0 && true)))))))
        · conv => whnf
          (rw [hr]; simp_all; done)
        · conv => whnf
          cases z9 : ta == []
          · conv => whnf
            (rw [hr]; simp_all; done)
          · conv => whnf
            (rw [hr]; simp_all; done)
    · conv => whnf
      cases z10 : pa == Int.ofNat 0
      · conv => whnf
        cases z11 : kd == Int.ofNat 0
        · conv => whnf
          cases z12 : kd == Int.ofNat 1
          · conv => whnf
            cases z13 : kd == Int.ofNat 5
            · conv => whnf
              cases z14 : kd == Int.ofNat 2
              · conv => whnf
                (rw [hr]; simp_all; done)
              · conv => whnf
                cases z15 :   vf 0 == Int.ofNat 0 &&     (vf 1 == Int.ofNat 0 &&       (vf 2 == Int.ofNat 0 &&         (vf 3 == Int.ofNat 0 &&           (vf 4 == Int.ofNat 0 && (vf 5 == Int.ofNat 0 && (vf 6 == Int.ofNat 0 && (vf 7 == Int.ofNat 0 && true)))))))
                · conv => whnf
                  (rw [hr]; simp_all; done)
                · conv => whnf
                  (rw [hr]; simp_all; done)
            · conv => whnf
              cases z16 :   vf 0 == Int.ofNat 0 &&     (vf 1 == Int.ofNat 0 &&       (vf 2 == Int.ofNat 0 &&         (vf 3 == Int.ofNat 0 &&           (vf 4 == Int.ofNat 0 && (vf 5 == Int.ofNat 0 && (vf 6 == Int.ofNat 0 && (vf 7 == Int.ofNat 0 && true)))))))
              · conv => whnf
                (rw [hr]; simp_all; done)
              · conv => whnf
                (rw [hr]; simp_all; done)
          · conv => whnf
            cases z17 : ta == []
            · conv => whnf
              (rw [hr]; simp_all; done)
            · conv => whnf
              (rw [hr]; simp_all; done)
        · conv => whnf
          cases z18 :   vf 0 == Int.ofNat 0 &&     (vf 1 == Int.ofNat 0 &&       (vf 2 == Int.ofNat 0 &&         (vf 3 == Int.ofNat 0 &&           (vf 4 == Int.ofNat 0 && (vf 5 == Int.ofNat 0 && (vf 6 == Int.ofNat 0 && (vf 7 == Int.ofNat 0 && true)))))))
          · conv => whnf
            (rw [hr]; simp_all; done)
          · conv => whnf
            cases z19 : ta == []
            · conv => whnf
              (rw [hr]; simp_all; done)
            · conv => whnf
              (rw [hr]; simp_all; done)
      · conv => whnf
        cases z20 : kd == Int.ofNat 0
        · conv => whnf
          cases z21 : kd == Int.ofNat 1
          · conv => whnf
            cases z22 : kd == Int.ofNat 5
            · conv => whnf
              cases z23 : kd == Int.ofNat 2
              · conv => whnf
                (rw [hr]; simp_all; done)
              · conv => whnf
                cases z24 :   vf 0 == Int.ofNat 0 &&     (vf 1 == Int.ofNat 0 &&       (vf 2 == Int.ofNat 0 &&         (vf 3 == Int.ofNat 0 &&           (vf 4 == Int.ofNat 0 && (vf 5 == Int.ofNat 0 && (vf 6 == Int.ofNat 0 && (vf 7 == Int.ofNat 0 && true)))))))
                · conv => whnf
                  (rw [hr]; simp_all; done)
                · conv => whnf
                  (rw [hr]; simp_all; done)
            · conv => whnf
              cases z25 :   vf 0 == Int.ofNat 0 &&     (vf 1 == Int.ofNat 0 &&       (vf 2 == Int.ofNat 0 &&         (vf 3 == Int.ofNat 0 &&           (vf 4 == Int.ofNat 0 && (vf 5 == Int.ofNat 0 && (vf 6 == Int.ofNat 0 && (vf 7 == Int.ofNat 0 && true)))))))
              · conv => whnf
                (rw [hr]; simp_all; done)
              · conv => whnf
                cases z26 : nx == Int.ofNat 0
                · conv => whnf
                  (rw [hr]; simp_all; done)
                · conv => whnf
                  with_reducible refine ⟨_, _, c1 _ _, ?_⟩
                  conv => whnf
                  (rw [hr]; simp_all; done)
          · conv => whnf
            cases z27 : ta == []
            · conv => whnf
              (rw [hr]; simp_all; done)
            · conv => whnf
              cases z28 : nx == Int.ofNat 0
              · conv => whnf
                (rw [hr]; simp_all; done)
              · conv => whnf
                (rw [hr]; simp_all; done)
        · conv => whnf
          cases z29 :   vf 0 == Int.ofNat 0 &&     (vf 1 == Int.ofNat 0 &&       (vf 2 == Int.ofNat 0 &&         (vf 3 == Int.ofNat 0 &&           (vf 4 == Int.ofNat 0 && (vf 5 == Int.ofNat 0 && (vf 6 == Int.ofNat 0 && (vf 7 == Int.ofNat 0 && true)))))))
          · conv => whnf
            (rw [hr]; simp_all; done)
          · conv => whnf
            cases z30 : ta == []
            · conv => whnf
              (rw [hr]; simp_all; done)
            · conv => whnf
              cases z31 : nx == Int.ofNat 0
              · conv => whnf
                (rw [hr]; simp_all; done)
              · conv => whnf
                cases z32 :   IntKind.u32.wrap       ↑(BitVec.ofInt IntKind.u32.bits               (IntKind.u32.wrap                 ↑(BitVec.ofInt IntKind.u32.bits                         (IntKind.u32.wrap                           ↑(BitVec.ofInt IntKind.u32.bits ge ||| BitVec.ofInt IntKind.u32.bits mo).toNat) |||                       BitVec.ofInt IntKind.u32.bits us).toNat) |||             BitVec.ofInt IntKind.u32.bits ng).toNat ==     Int.ofNat 0
                · conv => whnf
                  (rw [hr]; simp_all; done)
                · conv => whnf
                  cases z33 : li == Int.ofNat 0
                  · conv => whnf
                    (rw [hr]; simp_all; done)
                  · conv => whnf
                    cases z34 : xrs == Int.ofNat 0 && (xrn == Int.ofNat 0 && true)
                    · conv => whnf
                      (rw [hr]; simp_all; done)
                    · conv => whnf
                      cases z35 : xws == Int.ofNat 0 && (xwn == Int.ofNat 0 && true)
                      · conv => whnf
                        (rw [hr]; simp_all; done)
                      · conv => whnf
                        (rw [hr]; simp_all; done)
  · conv => whnf
    cases z0 : ↑by_.length == Int.ofNat 0
    · conv => whnf
      cases z1 : pa == Int.ofNat 0
      · conv => whnf
        cases z2 : kd == Int.ofNat 0
        · conv => whnf
          cases z3 : kd == Int.ofNat 1
          · conv => whnf
            cases z4 : kd == Int.ofNat 5
            · conv => whnf
              cases z5 : kd == Int.ofNat 2
              · conv => whnf
                (rw [hr]; simp_all; done)
              · conv => whnf
                (rw [hr]; simp_all; done)
            · conv => whnf
              (rw [hr]; simp_all; done)
          · conv => whnf
            cases z6 : ta == []
            · conv => whnf
              (rw [hr]; simp_all; done)
            · conv => whnf
              (rw [hr]; simp_all; done)
        · conv => whnf
          (rw [hr]; simp_all; done)
      · conv => whnf
        cases z7 : kd == Int.ofNat 0
        · conv => whnf
          cases z8 : kd == Int.ofNat 1
          · conv => whnf
            cases z9 : kd == Int.ofNat 5
            · conv => whnf
              cases z10 : kd == Int.ofNat 2
              · conv => whnf
                (rw [hr]; simp_all; done)
              · conv => whnf
                (rw [hr]; simp_all; done)
            · conv => whnf
              (rw [hr]; simp_all; done)
          · conv => whnf
            cases z11 : ta == []
            · conv => whnf
              (rw [hr]; simp_all; done)
            · conv => whnf
              cases z12 : nx == Int.ofNat 0
              · conv => whnf
                (rw [hr]; simp_all; done)
              · conv => whnf
                (rw [hr]; simp_all; done)
        · conv => whnf
          (rw [hr]; simp_all; done)
    · conv => whnf
      cases z13 : pa == Int.ofNat 0
      · conv => whnf
        cases z14 : kd == Int.ofNat 0
        · conv => whnf
          cases z15 : kd == Int.ofNat 1
          · conv => whnf
            cases z16 : kd == Int.ofNat 5
            · conv => whnf
              cases z17 : kd == Int.ofNat 2
              · conv => whnf
                (rw [hr]; simp_all; done)
              · conv => whnf
                cases z18 :   vf 0 == Int.ofNat 0 &&     (vf 1 == Int.ofNat 0 &&       (vf 2 == Int.ofNat 0 &&         (vf 3 == Int.ofNat 0 &&           (vf 4 == Int.ofNat 0 && (vf 5 == Int.ofNat 0 && (vf 6 == Int.ofNat 0 && (vf 7 == Int.ofNat 0 && true)))))))
                · conv => whnf
                  (rw [hr]; simp_all; done)
                · conv => whnf
                  (rw [hr]; simp_all; done)
            · conv => whnf
              cases z19 :   vf 0 == Int.ofNat 0 &&     (vf 1 == Int.ofNat 0 &&       (vf 2 == Int.ofNat 0 &&         (vf 3 == Int.ofNat 0 &&           (vf 4 == Int.ofNat 0 && (vf 5 == Int.ofNat 0 && (vf 6 == Int.ofNat 0 && (vf 7 == Int.ofNat 0 && true)))))))
              · conv => whnf
                (rw [hr]; simp_all; done)
              · conv => whnf
                (rw [hr]; simp_all; done)
          · conv => whnf
            cases z20 : ta == []
            · conv => whnf
              (rw [hr]; simp_all; done)
            · conv => whnf
              (rw [hr]; simp_all; done)
        · conv => whnf
          cases z21 :   vf 0 == Int.ofNat 0 &&     (vf 1 == Int.ofNat 0 &&       (vf 2 == Int.ofNat 0 &&         (vf 3 == Int.ofNat 0 &&           (vf 4 == Int.ofNat 0 && (vf 5 == Int.ofNat 0 && (vf 6 == Int.ofNat 0 && (vf 7 == Int.ofNat 0 && true)))))))
          · conv => whnf
            (rw [hr]; simp_all; done)
          · conv => whnf
            cases z22 : ta == []
            · conv => whnf
              (rw [hr]; simp_all; done)
            · conv => whnf
              (rw [hr]; simp_all; done)
      · conv => whnf
        cases z23 : kd == Int.ofNat 0
        · conv => whnf
          cases z24 : kd == Int.ofNat 1
          · conv => whnf
            cases z25 : kd == Int.ofNat 5
            · conv => whnf
              cases z26 : kd == Int.ofNat 2
              · conv => whnf
                (rw [hr]; simp_all; done)
              · conv => whnf
                cases z27 :   vf 0 == Int.ofNat 0 &&     (vf 1 == Int.ofNat 0 &&       (vf 2 == Int.ofNat 0 &&         (vf 3 == Int.ofNat 0 &&           (vf 4 == Int.ofNat 0 && (vf 5 == Int.ofNat 0 && (vf 6 == Int.ofNat 0 && (vf 7 == Int.ofNat 0 && true)))))))
                · conv => whnf
                  (rw [hr]; simp_all; done)
                · conv => whnf
                  (rw [hr]; simp_all; done)
            · conv => whnf
              cases z28 :   vf 0 == Int.ofNat 0 &&     (vf 1 == Int.ofNat 0 &&       (vf 2 == Int.ofNat 0 &&         (vf 3 == Int.ofNat 0 &&           (vf 4 == Int.ofNat 0 && (vf 5 == Int.ofNat 0 && (vf 6 == Int.ofNat 0 && (vf 7 == Int.ofNat 0 && true)))))))
              · conv => whnf
                (rw [hr]; simp_all; done)
              · conv => whnf
                cases z29 : nx == Int.ofNat 0
                · conv => whnf
                  (rw [hr]; simp_all; done)
                · conv => whnf
                  with_reducible refine ⟨_, _, c1 _ _, ?_⟩
                  conv => whnf
                  (rw [hr]; simp_all; done)
          · conv => whnf
            cases z30 : ta == []
            · conv => whnf
              (rw [hr]; simp_all; done)
            · conv => whnf
              cases z31 : nx == Int.ofNat 0
              · conv => whnf
                (rw [hr]; simp_all; done)
              · conv => whnf
                (rw [hr]; simp_all; done)
        · conv => whnf
          cases z32 :   vf 0 == Int.ofNat 0 &&     (vf 1 == Int.ofNat 0 &&       (vf 2 == Int.ofNat 0 &&         (vf 3 == Int.ofNat 0 &&           (vf 4 == Int.ofNat 0 && (vf 5 == Int.ofNat 0 && (vf 6 == Int.ofNat 0 && (vf 7 == Int.ofNat 0 && true)))))))
          · conv => whnf
            (rw [hr]; simp_all; done)
          · conv => whnf
            cases z33 : ta == []
            · conv => whnf
              (rw [hr]; simp_all; done)
            · conv => whnf
              cases z34 : nx == Int.ofNat 0
              · conv => whnf
                (rw [hr]; simp_all; done)
              · conv => whnf
                cases z35 :   IntKind.u32.wrap       ↑(BitVec.ofInt IntKind.u32.bits               (IntKind.u32.wrap                 ↑(BitVec.ofInt IntKind.u32.bits                         (IntKind.u32.wrap                           ↑(BitVec.ofInt IntKind.u32.bits ge ||| BitVec.ofInt IntKind.u32.bits mo).toNat) |||                       BitVec.ofInt IntKind.u32.bits us).toNat) |||             BitVec.ofInt IntKind.u32.bits ng).toNat ==     Int.ofNat 0
                · conv => whnf
                  (rw [hr]; simp_all; done)
                · conv => whnf
                  cases z36 : li == Int.ofNat 0
                  · conv => whnf
                    (rw [hr]; simp_all; done)
                  · conv => whnf
                    cases z37 : xrs == Int.ofNat 0 && (xrn == Int.ofNat 0 && true)
                    · conv => whnf
                      (rw [hr]; simp_all; done)
                    · conv => whnf
                      cases z38 : xws == Int.ofNat 0 && (xwn == Int.ofNat 0 && true)
                      · conv => whnf
                        (rw [hr]; simp_all; done)
                      · conv => whnf
                        (rw [hr]; simp_all; done)
  · conv => whnf
    cases z0 : ↑by_.length == Int.ofNat 0
    · conv => whnf
      cases z1 : ↑es.length == Int.ofNat 0
      · conv => whnf
        cases z2 : kd == Int.ofNat 0
        · conv => whnf
          cases z3 : kd == Int.ofNat 1
          · conv => whnf
            cases z4 : kd == Int.ofNat 5
            · conv => whnf
              cases z5 : kd == Int.ofNat 2
              · conv => whnf
                (rw [hr]; simp_all; done)
              · conv => whnf
                (rw [hr]; simp_all; done)
            · conv => whnf
              (rw [hr]; simp_all; done)
          · conv => whnf
            cases z6 : ta == []
            · conv => whnf
              (rw [hr]; simp_all; done)
            · conv => whnf
              (rw [hr]; simp_all; done)
        · conv => whnf
          (rw [hr]; simp_all; done)
      · conv => whnf
        cases z7 : pa == Int.ofNat 0
        · conv => whnf
          cases z8 : kd == Int.ofNat 0
          · conv => whnf
            cases z9 : kd == Int.ofNat 1
            · conv => whnf
              cases z10 : kd == Int.ofNat 5
              · conv => whnf
                cases z11 : kd == Int.ofNat 2
                · conv => whnf
                  (rw [hr]; simp_all; done)
                · conv => whnf
                  (rw [hr]; simp_all; done)
              · conv => whnf
                (rw [hr]; simp_all; done)
            · conv => whnf
              cases z12 : ta == []
              · conv => whnf
                (rw [hr]; simp_all; done)
              · conv => whnf
                (rw [hr]; simp_all; done)
          · conv => whnf
            (rw [hr]; simp_all; done)
        · conv => whnf
          cases z13 : kd == Int.ofNat 0
          · conv => whnf
            cases z14 : kd == Int.ofNat 1
            · conv => whnf
              cases z15 : kd == Int.ofNat 5
              · conv => whnf
                cases z16 : kd == Int.ofNat 2
                · conv => whnf
                  (rw [hr]; simp_all; done)
                · conv => whnf
                  (rw [hr]; simp_all; done)
              · conv => whnf
                (rw [hr]; simp_all; done)
            · conv => whnf
              cases z17 : ta == []
              · conv => whnf
                (rw [hr]; simp_all; done)
              · conv => whnf
                cases z18 : nx == Int.ofNat 0
                · conv => whnf
                  (rw [hr]; simp_all; done)
                · conv => whnf
                  (rw [hr]; simp_all; done)
          · conv => whnf
            (rw [hr]; simp_all; done)
    · conv => whnf
      cases z19 : ↑es.length == Int.ofNat 0
      · conv => whnf
        cases z20 : kd == Int.ofNat 0
        · conv => whnf
          cases z21 : kd == Int.ofNat 1
          · conv => whnf
            cases z22 : kd == Int.ofNat 5
            · conv => whnf
              cases z23 : kd == Int.ofNat 2
              · conv => whnf
                (rw [hr]; simp_all; done)
              · conv => whnf
                cases z24 :   vf 0 == Int.ofNat 0 &&     (vf 1 == Int.ofNat 0 &&       (vf 2 == Int.ofNat 0 &&         (vf 3 == Int.ofNat 0 &&           (vf 4 == Int.ofNat 0 && (vf 5 == Int.ofNat 0 && (vf 6 == Int.ofNat 0 && (vf 7 == Int.ofNat 0 && true)))))))
                · conv => whnf
                  (rw [hr]; simp_all; done)
                · conv => whnf
                  (rw [hr]; simp_all; done)
            · conv => whnf
              cases z25 :   vf 0 == Int.ofNat 0 &&     (vf 1 == Int.ofNat 0 &&       (vf 2 == Int.ofNat 0 &&         (vf 3 == Int.ofNat 0 &&           (vf 4 == Int.ofNat 0 && (vf 5 == Int.ofNat 0 && (vf 6 == Int.ofNat 0 && (vf 7 == Int.ofNat 0 && true)))))))
              · conv => whnf
                (rw [hr]; simp_all; done)
              · conv => whnf
                (rw [hr]; simp_all; done)
          · conv => whnf
            cases z26 : ta == []
            · conv => whnf
              (rw [hr]; simp_all; done)
            · conv => whnf
              (rw [hr]; simp_all; done)
        · conv => whnf
          cases z27 :   vf 0 == Int.ofNat 0 &&     (vf 1 == Int.ofNat 0 &&       (vf 2 == Int.ofNat 0 &&         (vf 3 == Int.ofNat 0 &&           (vf 4 == Int.ofNat 0 && (vf 5 == Int.ofNat 0 && (vf 6 == Int.ofNat 0 && (vf 7 == Int.ofNat 0 && true)))))))
          · conv => whnf
            (rw [hr]; simp_all; done)
          · conv => whnf
            cases z28 : ta == []
            · conv => whnf
              (rw [hr]; simp_all; done)
            · conv => whnf
              (rw [hr]; simp_all; done)
      · conv => whnf
        cases z29 : pa == Int.ofNat 0
        · conv => whnf
          cases z30 : kd == Int.ofNat 0
          · conv => whnf
            cases z31 : kd == Int.ofNat 1
            · conv => whnf
              cases z32 : kd == Int.ofNat 5
              · conv => whnf
                cases z33 : kd == Int.ofNat 2
                · conv => whnf
                  (rw [hr]; simp_all; done)
                · conv => whnf
                  cases z34 :   vf 0 == Int.ofNat 0 &&     (vf 1 == Int.ofNat 0 &&       (vf 2 == Int.ofNat 0 &&         (vf 3 == Int.ofNat 0 &&           (vf 4 == Int.ofNat 0 && (vf 5 == Int.ofNat 0 && (vf 6 == Int.ofNat 0 && (vf 7 == Int.ofNat 0 && true)))))))
                  · conv => whnf
                    (rw [hr]; simp_all; done)
                  · conv => whnf
                    (rw [hr]; simp_all; done)
              · conv => whnf
                cases z35 :   vf 0 == Int.ofNat 0 &&     (vf 1 == Int.ofNat 0 &&       (vf 2 == Int.ofNat 0 &&         (vf 3 == Int.ofNat 0 &&           (vf 4 == Int.ofNat 0 && (vf 5 == Int.ofNat 0 && (vf 6 == Int.ofNat 0 && (vf 7 == Int.ofNat 0 && true)))))))
                · conv => whnf
                  (rw [hr]; simp_all; done)
                · conv => whnf
                  (rw [hr]; simp_all; done)
            · conv => whnf
              cases z36 : ta == []
              · conv => whnf
                (rw [hr]; simp_all; done)
              · conv => whnf
                (rw [hr]; simp_all; done)
          · conv => whnf
            cases z37 :   vf 0 == Int.ofNat 0 &&     (vf 1 == Int.ofNat 0 &&       (vf 2 == Int.ofNat 0 &&         (vf 3 == Int.ofNat 0 &&           (vf 4 == Int.ofNat 0 && (vf 5 == Int.ofNat 0 && (vf 6 == Int.ofNat 0 && (vf 7 == Int.ofNat 0 && true)))))))
            · conv => whnf
              (rw [hr]; simp_all; done)
            · conv => whnf
              cases z38 : ta == []
              · conv => whnf
                (rw [hr]; simp_all; done)
              · conv => whnf
                (rw [hr]; simp_all; done)
        · conv => whnf
          cases z39 : kd == Int.ofNat 0
          · conv => whnf
            cases z40 : kd == Int.ofNat 1
            · conv => whnf
              cases z41 : kd == Int.ofNat 5
              · conv => whnf
                cases z42 : kd == Int.ofNat 2
                · conv => whnf
                  (rw [hr]; simp_all; done)
                · conv => whnf
                  cases z43 :   vf 0 == Int.ofNat 0 &&     (vf 1 == Int.ofNat 0 &&       (vf 2 == Int.ofNat 0 &&         (vf 3 == Int.ofNat 0 &&           (vf 4 == Int.ofNat 0 && (vf 5 == Int.ofNat 0 && (vf 6 == Int.ofNat 0 && (vf 7 == Int.ofNat 0 && true)))))))
                  · conv => whnf
                    (rw [hr]; simp_all; done)
                  · conv => whnf
                    (rw [hr]; simp_all; done)
              · conv => whnf
                cases z44 :   vf 0 == Int.ofNat 0 &&     (vf 1 == Int.ofNat 0 &&       (vf 2 == Int.ofNat 0 &&         (vf 3 == Int.ofNat 0 &&           (vf 4 == Int.ofNat 0 && (vf 5 == Int.ofNat 0 && (vf 6 == Int.ofNat 0 && (vf 7 == Int.ofNat 0 && true)))))))
                · conv => whnf
                  (rw [hr]; simp_all; done)
                · conv => whnf
                  cases z45 : nx == Int.ofNat 0
                  · conv => whnf
                    (rw [hr]; simp_all; done)
                  · conv => whnf
                    with_reducible refine ⟨_, _, c1 _ _, ?_⟩
                    conv => whnf
                    (rw [hr]; simp_all; done)
            · conv => whnf
              cases z46 : ta == []
              · conv => whnf
                (rw [hr]; simp_all; done)
              · conv => whnf
                cases z47 : nx == Int.ofNat 0
                · conv => whnf
                  (rw [hr]; simp_all; done)
                · conv => whnf
                  (rw [hr]; simp_all; done)
          · conv => whnf
            cases z48 :   vf 0 == Int.ofNat 0 &&     (vf 1 == Int.ofNat 0 &&       (vf 2 == Int.ofNat 0 &&         (vf 3 == Int.ofNat 0 &&           (vf 4 == Int.ofNat 0 && (vf 5 == Int.ofNat 0 && (vf 6 == Int.ofNat 0 && (vf 7 == Int.ofNat 0 && true)))))))
            · conv => whnf
              (rw [hr]; simp_all; done)
            · conv => whnf
              cases z49 : ta == []
              · conv => whnf
                (rw [hr]; simp_all; done)
              · conv => whnf
                cases z50 : nx == Int.ofNat 0
                · conv => whnf
                  (rw [hr]; simp_all; done)
                · conv => whnf
                  cases z51 :   IntKind.u32.wrap       ↑(BitVec.ofInt IntKind.u32.bits               (IntKind.u32.wrap                 ↑(BitVec.ofInt IntKind.u32.bits                         (IntKind.u32.wrap                           ↑(BitVec.ofInt IntKind.u32.bits ge ||| BitVec.ofInt IntKind.u32.bits mo).toNat) |||                       BitVec.ofInt IntKind.u32.bits us).toNat) |||             BitVec.ofInt IntKind.u32.bits ng).toNat ==     Int.ofNat 0
                  · conv => whnf
                    (rw [hr]; simp_all; done)
                  · conv => whnf
                    cases z52 : li == Int.ofNat 0
                    · conv => whnf
                      (rw [hr]; simp_all; done)
                    · conv => whnf
                      cases z53 : xrs == Int.ofNat 0 && (xrn == Int.ofNat 0 && true)
                      · conv => whnf
                        (rw [hr]; simp_all; done)
                      · conv => whnf
                        cases z54 : xws == Int.ofNat 0 && (xwn == Int.ofNat 0 && true)
                        · conv => whnf
                          (rw [hr]; simp_all; done)
                        · conv => whnf
                          (rw [hr]; simp_all; done)
end Go.Proofs.Ytnfkpnfafekflaa.Ab
/- Over the engine: directories within one another. -/
namespace Go.Proofs.Ytnfkpnfafekflaa.Ab
open Go Go.RowKit

set_option maxRecDepth 100000
/-- A loop whose state is told by what turns of the one that it began with. -/
theorem rounds_at {α : Type} {f : ST → (AX → ST → Prop) → Prop} {ks : Option (List Nat)} {n : Nat} {Q : AX → ST → Prop} (upd : ST → α → ST) (I : α → Prop) (μ : α → Nat) {s : ST} (m : Nat) (a : α) (ha : I a) (hm : μ a < m) (h0 : s.norm ks n = upd s a)
    (step : ∀ a m, I a → (∀ a' s', I a' → μ a' < μ a → s'.norm ks n = upd s a' → roundsK f (normK ks n) Q m s') → f (upd s a) fun x s' => match x with
      | .normal => roundsK f (normK ks n) Q m s'
      | x => Q x s') : roundsK f (normK ks n) Q m s := rounds_ind (upd s) I μ step m a s ha hm h0
def parentS (ns : List NodeS) (d : Int) : Int := match ns[d.toNat]? with
  | some x => x.parent
  | none => 0
def dirS (ns : List NodeS) (d : Int) : Bool := thereS ns d && kindS ns d == 2
def withinS (ns : List NodeS) (top : Int) : Nat → Int → Bool
  | 0, _ => false
  | k + 1, d => if dirS ns d = true then if (d == top) = true then true else if (d == 1) = true then false else withinS ns top k (parentS ns d) else false
set_option maxHeartbeats 8000000 in
theorem within_c (m : Nat) (from_ : FuncId) (h : H) (ns : List NodeS) (t : Bool) (gen d top : Int) (hl : ns.length ≤ 140737488351232) : evCall TE (m + 5) from_ (.fn 11 [] []) [.agg [.sl (nodesA ns) ns.length t, .int .u32 gen], .int .i64 d, .int .i64 top] h = some (.ret (.bool (withinS ns top (ns.length + 1) d)), h) := by
  have c1 : ∀ (f : FuncId) (h : H) (d : Int), (evAll TE (m + 3)).1 f (.fn 14 [] []) [.agg [.sl (nodesA ns) ns.length t, .int .u32 gen], .int .i64 d, .int .u32 2] h = some (.ret (.bool (dirS ns d)), h) := fun f h d => is_c (m + 1) f h ns t gen d 2
  obtain ⟨r, hr⟩ : ∃ r, r = withinS ns top (ns.length + 1) d := ⟨_, rfl⟩
  rw [← hr]
  have hw0 : IntKind.wrap .i64 ((ns.length : Int) + 1) = ns.length + 1 := wrap64 (by omega) (by omega)
  refine call_clean (fn := Try.f11) rfl Try.func11 rfl rfl rfl rfl rfl (Nat.le_of_ble_eq_true rfl) ?_
  conv => whnf
  (refine call_raw (fn := Try.f25) rfl Try.func25 rfl rfl (Nat.le_of_ble_eq_true rfl) ?_)
  conv => whnf
  (refine range_K ?_)
  conv => whnf
  (refine call_inline (fn := Try.f36) rfl Try.func36 rfl rfl ?_)
  conv => whnf
  rw [hw0]
  refine ⟨ns.length + 2, by show ns.length + 2 ≤ 4611686018427387904; omega, ?_⟩
  refine rounds_at (fun s (a : Int × Int) => ⟨RG.of 31 [(8, .int .i64 a.1), (7, .int .i64 ((ns.length : Int) + 1)), (2, .ref 4 0 0), (1, .ref 3 0 0), (0, .yc 5)], ⟨s.h.bs.set 4 (.cells [.int .i64 a.2] ⟨false, 0, false, true⟩), s.h.esc⟩⟩) (fun a => 0 ≤ a.1 ∧ a.1 ≤ ns.length + 1 ∧ r = withinS ns top (ns.length + 1 - a.1).toNat a.2) (fun a => (ns.length + 1 - a.1).toNat) _ (0, d) ⟨by omega, by omega, hr⟩ (by simp only; omega) (by kernel_rfl) ?_
  intro a m' hI ih
  obtain ⟨i, d'⟩ := a
  dsimp only at hI ih ⊢
  obtain ⟨hI0, hI1, hI2⟩ := hI
  clear hr
  conv => whnf
  cases h1 : decide (i < (ns.length : Int) + 1) with
  | false =>
    have h1 := of_decide_eq_false h1
    rw [show (ns.length + 1 - i).toNat = 0 by omega] at hI2
    clear ih
    conv => whnf
    (rw [hI2]; rfl)
  | true =>
    have h1 := of_decide_eq_true h1
    have hw : IntKind.wrap .i64 (i + 1) = i + 1 := wrap64 (by omega) (by omega)
    have hmu : (ns.length + 1 - IntKind.wrap .i64 (i + 1)).toNat < (ns.length + 1 - i).toNat := by rw [hw]; omega
    obtain ⟨k, hk⟩ : ∃ k, (ns.length + 1 - i).toNat = k + 1 := ⟨(ns.length + 1 - i).toNat - 1, by omega⟩
    have hk2 : (ns.length + 1 - IntKind.wrap .i64 (i + 1)).toNat = k := by rw [hw]; omega
    rw [hk, withinS] at hI2
    have hwa : 0 ≤ IntKind.wrap .i64 (i + 1) ∧ IntKind.wrap .i64 (i + 1) ≤ ns.length + 1 := by rw [hw]; omega
    have c2 := fun f h => c1 f h d'
    cases hd : dirS ns d' with
    | false =>
      rw [hd] at c2 hI2
      clear ih
      conv => whnf
      with_reducible refine ⟨_, _, c2 _ _, ?_⟩
      conv => whnf
      (rw [hI2]; rfl)
    | true =>
      rw [hd, if_pos rfl] at hI2
      rw [hd] at c2
      have hd2 := hd
      unfold dirS thereS at hd2
      rw [Bool.and_eq_true, Bool.and_eq_true, Bool.and_eq_true, decide_eq_true_eq, decide_eq_true_eq] at hd2
      have hd0 : 0 ≤ d' := by omega
      have hd1 := hd2.1.2.1
      obtain ⟨x, hx⟩ : ∃ x, ns[d'.toNat]? = some x := ⟨_, List.getElem?_eq_getElem (by omega)⟩
      have hp : parentS ns d' = x.parent := by unfold parentS; rw [hx]
      rw [hp] at hI2
      clear hd2
      cases q1 : (d' == top) with
      | true =>
        rw [q1, if_pos rfl] at hI2
        clear ih
        conv => whnf
        with_reducible refine ⟨_, _, c2 _ _, ?_⟩
        conv => whnf
        (refine yield_K ?_)
        conv => whnf
        ((with_reducible cases z0 : d' == top) <;> try exact Bool.noConfusion (Eq.trans (Eq.symm z0) q1))
        conv => whnf
        (rw [hI2])
      | false =>
        rw [q1, if_neg (fun h => Bool.noConfusion h)] at hI2
        cases q2 : (d' == (1 : Int)) with
        | true =>
          rw [q2, if_pos rfl] at hI2
          clear ih
          conv => whnf
          with_reducible refine ⟨_, _, c2 _ _, ?_⟩
          conv => whnf
          (refine yield_K ?_)
          conv => whnf
          ((with_reducible cases z0 : d' == top) <;> try exact Bool.noConfusion (Eq.trans (Eq.symm z0) q1))
          conv => whnf
          ((with_reducible cases z1 : d' == Int.ofNat 1) <;> try exact Bool.noConfusion (Eq.trans (Eq.symm z1) q2))
          conv => whnf
          (rw [hI2])
        | false =>
          rw [q2, if_neg (fun h => Bool.noConfusion h)] at hI2
          conv => whnf
          with_reducible refine ⟨_, _, c2 _ _, ?_⟩
          conv => whnf
          (refine yield_K ?_)
          conv => whnf
          ((with_reducible cases z0 : d' == top) <;> try exact Bool.noConfusion (Eq.trans (Eq.symm z0) q1))
          conv => whnf
          ((with_reducible cases z1 : d' == Int.ofNat 1) <;> try exact Bool.noConfusion (Eq.trans (Eq.symm z1) q2))
          conv => whnf
          (refine runK_ret (ev_indexSl (sz := 25) rfl rfl rfl rfl hd0 hd1) ?_)
          conv => whnf
          (refine runK_ret (ev_loadV (z := 1) rfl rfl rfl ((nodesA_cell hx 23 (by decide)).trans rfl)) ?_)
          conv => whnf
          (exact ih (IntKind.wrap .i64 (i + 1), x.parent) _ ⟨hwa.1, hwa.2, by rw [hk2]; exact hI2⟩ hmu (by kernel_rfl))
end Go.Proofs.Ytnfkpnfafekflaa.Ab
/- Over the engine: the handle of a node, the node of a handle, of a name. -/
namespace Go.Proofs.Ytnfkpnfafekflaa.Ab
open Go Go.RowKit

set_option maxRecDepth 100000
theorem there_facts {ns : List NodeS} {n : Int} (h : thereS ns n = true) : 0 < n ∧ n < ns.length ∧ (kindS ns n != 0) = true := by
  unfold thereS at h
  simp only [Bool.and_eq_true, decide_eq_true_eq] at h
  exact h
def genS (ns : List NodeS) (n : Int) : Int := match ns[n.toNat]? with
  | some x => x.gen
  | none => 0
def handleA (ns : List NodeS) (n : Int) : AV := if (!thereS ns n || decide (n > 1024)) = true then .tup [.sl0, .int .i64 1] else .tup [.sl (numsA .u8 (bytesS (IntKind.wrap .u32 n) (genS ns n))) 16 false, .int .i64 0]
theorem handle_c (m : Nat) (from_ : FuncId) (h : H) (v : AV) (ns : List NodeS) (hv : nodesOk v ns) (gen n : Int) : evCall TE (m + 14) from_ (.fn 8 [] []) [.agg [v, .int .u32 gen], .int .i64 n] h = some (.ret (handleA ns n), h) := by
  have c1 : ∀ (f : FuncId) (h : H), (evAll TE (m + 13)).1 f (.fn 15 [] []) [.agg [v, .int .u32 gen], .int .i64 n] h = some (.ret (.bool (thereS ns n)), h) := fun f h => there_c (m + 12) f h v ns hv gen n
  cases ht : thereS ns n with
  | false =>
    rw [ht] at c1
    have e : handleA ns n = .tup [.sl0, .int .i64 1] := by
      unfold handleA
      rw [ht]
      rfl
    rw [e]
    rcases hv with ⟨rfl, rfl⟩ | ⟨t, rfl⟩
    · refine call_clean (fn := Try.f8) rfl Try.func8 rfl rfl rfl rfl rfl (Nat.le_of_ble_eq_true rfl) ?_
      conv => whnf
      with_reducible refine ⟨_, _, c1 _ _, ?_⟩
      conv => whnf
    · refine call_clean (fn := Try.f8) rfl Try.func8 rfl rfl rfl rfl rfl (Nat.le_of_ble_eq_true rfl) ?_
      conv => whnf
      with_reducible refine ⟨_, _, c1 _ _, ?_⟩
      conv => whnf
  | true =>
    rw [ht] at c1
    obtain ⟨h1, h2, _⟩ := there_facts ht
    have h0 : 0 ≤ n := by omega
    obtain ⟨x, hx⟩ : ∃ x, ns[n.toNat]? = some x := ⟨_, List.getElem?_eq_getElem (by omega)⟩
    rcases hv with ⟨rfl, rfl⟩ | ⟨t, rfl⟩
    · simp at hx
    cases hq : decide (n > 1024) with
    | true =>
      have e : handleA ns n = .tup [.sl0, .int .i64 1] := by
        unfold handleA
        rw [ht, hq]
        rfl
      rw [e]
      refine call_clean (fn := Try.f8) rfl Try.func8 rfl rfl rfl rfl rfl (Nat.le_of_ble_eq_true rfl) ?_
      conv => whnf
      with_reducible refine ⟨_, _, c1 _ _, ?_⟩
      conv => whnf
      ((with_reducible cases z0 : decide (n > Int.ofNat 1024)) <;> try exact Bool.noConfusion (Eq.trans (Eq.symm z0) hq))
      conv => whnf
    | false =>
      have e : handleA ns n = .tup [.sl (numsA .u8 (bytesS (IntKind.wrap .u32 n) x.gen)) 16 false, .int .i64 0] := by
        unfold handleA genS
        rw [ht, hq, hx]
        rfl
      rw [e]
      have c2 : ∀ (f : FuncId) (h : H), (evAll TE (m + 13)).1 f (.fn 23 [] []) [.agg [.int .i64 n, .int .u32 x.gen]] h = some (.ret (.tup [.sl (numsA .u8 (bytesS (IntKind.wrap .u32 n) x.gen)) 16 false, .int .i64 0]), h) := fun f h => putH_c m f h n x.gen (by omega) (by have := of_decide_eq_false hq; omega)
      refine call_clean (fn := Try.f8) rfl Try.func8 rfl rfl rfl rfl rfl (Nat.le_of_ble_eq_true rfl) ?_
      conv => whnf
      with_reducible refine ⟨_, _, c1 _ _, ?_⟩
      conv => whnf
      ((with_reducible cases z0 : decide (n > Int.ofNat 1024)) <;> try exact Bool.noConfusion (Eq.trans (Eq.symm z0) hq))
      conv => whnf
      (refine runK_ret (ev_indexSl (sz := 25) rfl rfl rfl rfl h0 h2) ?_)
      conv => whnf
      (refine runK_ret (ev_loadV (z := 1) rfl rfl rfl ((nodesA_cell hx 1 (by decide)).trans rfl)) ?_)
      conv => whnf
      with_reducible refine ⟨_, _, c2 _ _, ?_⟩
      conv => whnf
def findHA (ns : List NodeS) (o : Option (Int × Int)) : AV := match o with
  | none => .tup [.int .i64 0, .int .u32 10001]
  | some (n, g) => if (!thereS ns (IntKind.wrap .i64 n) || (genS ns (IntKind.wrap .i64 n) != g)) = true then .tup [.int .i64 0, .int .u32 70] else .tup [.int .i64 (IntKind.wrap .i64 n), .int .u32 0]
set_option maxHeartbeats 8000000 in
theorem find_c (m : Nat) (from_ : FuncId) (h : H) (v : AV) (ns : List NodeS) (hv : nodesOk v ns) (gen : Int) (w : AV) (l : List Int) (hw : rowOk .u8 w l) : evCall TE (m + 14) from_ (.fn 10 [] []) [.agg [v, .int .u32 gen], w] h = some (.ret (findHA ns (getHS l)), h) := by
  have c1 : ∀ (f : FuncId) (h : H), (evAll TE (m + 13)).1 f (.fn 24 [] []) [w] h = some (.ret (getHA (getHS l)), h) := fun f h => getH_c m f h w l hw
  cases ho : getHS l with
  | none =>
    rw [ho] at c1
    unfold findHA
    unfold getHA at c1
    dsimp only at c1 ⊢
    rcases hv with ⟨rfl, rfl⟩ | ⟨t, rfl⟩ <;> rcases hw with ⟨rfl, rfl⟩ | ⟨t', rfl⟩
    all_goals refine call_clean (fn := Try.f10) rfl Try.func10 rfl rfl rfl rfl rfl (Nat.le_of_ble_eq_true rfl) ?_
    all_goals
      conv => whnf
      with_reducible refine ⟨_, _, c1 _ _, ?_⟩
      conv => whnf
  | some p =>
    obtain ⟨n0, g⟩ := p
    rw [ho] at c1
    unfold findHA
    unfold getHA at c1
    dsimp only at c1 ⊢
    obtain ⟨n, hn⟩ : ∃ n, n = IntKind.wrap .i64 n0 := ⟨_, rfl⟩
    rw [← hn] at c1 ⊢
    have c2 : ∀ (f : FuncId) (h : H), (evAll TE (m + 13)).1 f (.fn 15 [] []) [.agg [v, .int .u32 gen], .int .i64 n] h = some (.ret (.bool (thereS ns n)), h) := fun f h => there_c (m + 12) f h v ns hv gen n
    cases ht : thereS ns n with
    | false =>
      rw [ht] at c2
      rw [if_pos (show (!false || (genS ns n != g)) = true from rfl)]
      rcases hv with ⟨rfl, rfl⟩ | ⟨t, rfl⟩ <;> rcases hw with ⟨rfl, rfl⟩ | ⟨t', rfl⟩
      all_goals refine call_clean (fn := Try.f10) rfl Try.func10 rfl rfl rfl rfl rfl (Nat.le_of_ble_eq_true rfl) ?_
      all_goals
        conv => whnf
        with_reducible refine ⟨_, _, c1 _ _, ?_⟩
        conv => whnf
        with_reducible refine ⟨_, _, c2 _ _, ?_⟩
        conv => whnf
        (refine ⟨by kernel_rfl, ?_⟩)
        conv => whnf
        (refine ⟨by kernel_rfl, ?_⟩)
        conv => whnf
    | true =>
      rw [ht] at c2
      obtain ⟨h1, h2, _⟩ := there_facts ht
      have h0 : 0 ≤ n := by omega
      obtain ⟨x, hx⟩ : ∃ x, ns[n.toNat]? = some x := ⟨_, List.getElem?_eq_getElem (by omega)⟩
      rcases hv with ⟨rfl, rfl⟩ | ⟨t, rfl⟩
      · simp at hx
      have eg : genS ns n = x.gen := by unfold genS; rw [hx]
      rw [eg]
      cases hq : (x.gen != g) with
      | true =>
        rw [if_pos (show (!true || true) = true from rfl)]
        rcases hw with ⟨rfl, rfl⟩ | ⟨t', rfl⟩
        all_goals refine call_clean (fn := Try.f10) rfl Try.func10 rfl rfl rfl rfl rfl (Nat.le_of_ble_eq_true rfl) ?_
        all_goals
          conv => whnf
          with_reducible refine ⟨_, _, c1 _ _, ?_⟩
          conv => whnf
          with_reducible refine ⟨_, _, c2 _ _, ?_⟩
          conv => whnf
          (refine ⟨by kernel_rfl, ?_⟩)
          conv => whnf
          (refine runK_ret (ev_indexSl (sz := 25) rfl rfl rfl rfl h0 h2) ?_)
          conv => whnf
          (refine runK_ret (ev_loadV (z := 1) rfl rfl rfl ((nodesA_cell hx 1 (by decide)).trans rfl)) ?_)
          conv => whnf
          (refine ⟨by kernel_rfl, ?_⟩)
          conv => whnf
          ((with_reducible cases z0 : x.gen != g) <;> try exact Bool.noConfusion (Eq.trans (Eq.symm z0) hq))
          conv => whnf
      | false =>
        rw [if_neg (show ¬ (!true || false) = true by decide)]
        rcases hw with ⟨rfl, rfl⟩ | ⟨t', rfl⟩
        all_goals refine call_clean (fn := Try.f10) rfl Try.func10 rfl rfl rfl rfl rfl (Nat.le_of_ble_eq_true rfl) ?_
        all_goals
          conv => whnf
          with_reducible refine ⟨_, _, c1 _ _, ?_⟩
          conv => whnf
          with_reducible refine ⟨_, _, c2 _ _, ?_⟩
          conv => whnf
          (refine ⟨by kernel_rfl, ?_⟩)
          conv => whnf
          (refine runK_ret (ev_indexSl (sz := 25) rfl rfl rfl rfl h0 h2) ?_)
          conv => whnf
          (refine runK_ret (ev_loadV (z := 1) rfl rfl rfl ((nodesA_cell hx 1 (by decide)).trans rfl)) ?_)
          conv => whnf
          (refine ⟨by kernel_rfl, ?_⟩)
          conv => whnf
          ((with_reducible cases z0 : x.gen != g) <;> try exact Bool.noConfusion (Eq.trans (Eq.symm z0) hq))
          conv => whnf
/-- Where a name stands among entries. -/
def whereS (name : List UInt8) : Int → List EntryS → Int
  | _, [] => -1
  | i, e :: r => if (e.name == name) = true then i else whereS name (i + 1) r
theorem whereS_drop {name : List UInt8} {l : List EntryS} {i : Int} {e : EntryS} (h0 : 0 ≤ i) (h : l[i.toNat]? = some e) : whereS name i (l.drop i.toNat) = if (e.name == name) = true then i else whereS name (i + 1) (l.drop (i + 1).toNat) := by
  obtain ⟨h1, rfl⟩ := List.getElem?_eq_some_iff.1 h
  rw [List.drop_eq_getElem_cons h1, whereS, show (i + 1).toNat = i.toNat + 1 by omega]
theorem whereS_some {name : List UInt8} : ∀ (l : List EntryS) (i : Int), 0 ≤ i → whereS name i l = -1 ∨ ∃ (k : Nat) (e : EntryS), whereS name i l = i + k ∧ l[k]? = some e ∧ (e.name == name) = true ∧ l.find? (fun e => e.name == name) = some e
  | [], i, _ => .inl rfl
  | e :: r, i, h => by
    rw [whereS]
    cases hq : (e.name == name) with
    | true => exact .inr ⟨0, e, by rw [if_pos rfl]; simp, rfl, hq, by rw [List.find?_cons, hq]⟩
    | false =>
      rw [if_neg (fun h => Bool.noConfusion h)]
      rcases whereS_some r (i + 1) (by omega) with h1 | ⟨k, e', h1, h2, h3, h4⟩
      · exact .inl h1
      · exact .inr ⟨k + 1, e', by rw [h1]; omega, h2, h3, by rw [List.find?_cons, hq]; exact h4⟩
theorem whereS_none {name : List UInt8} : ∀ (l : List EntryS) (i : Int), 0 ≤ i → whereS name i l = -1 → l.find? (fun e => e.name == name) = none
  | [], _, _, _ => rfl
  | e :: r, i, h0, h => by
    rw [whereS] at h
    cases hq : (e.name == name) with
    | true => rw [hq, if_pos rfl] at h; omega
    | false =>
      rw [hq, if_neg (fun h => Bool.noConfusion h)] at h
      rw [List.find?_cons, hq]
      exact whereS_none r (i + 1) (by omega) h
set_option maxHeartbeats 4000000 in
theorem idx_c (m : Nat) (from_ : FuncId) (h : H) (v : AV) (l : List EntryS) (hv : entsOk v l) (name : List UInt8) (hl : l.length ≤ 140737488351232) : evCall TE (m + 3) from_ (.fn 26 [] []) [v, .fn 27 [] [.vref [.str name] 0]] h = some (.ret (.int .i64 (whereS name 0 l)), h) := by
  have c1 : ∀ (f : FuncId) (h : H) (e : EntryS), (evAll TE (m + 2)).1 f (.fn 27 [] [.vref [.str name] 0]) [.agg (entryA e)] h = some (.ret (.bool (e.name == name)), h) := by
    intro f h e
    obtain ⟨en, eno, ec⟩ := e
    unfold entryA
    refine call_clean (fn := Try.f27) rfl Try.func27 rfl rfl rfl rfl rfl (Nat.le_of_ble_eq_true rfl) ?_
    conv => whnf
  rcases hv with ⟨rfl, rfl⟩ | ⟨t, rfl⟩
  · refine call_clean (fn := Try.f26) rfl Try.func26 rfl rfl rfl rfl rfl (Nat.le_of_ble_eq_true rfl) ?_
    conv => whnf
    (refine ⟨(2 : Nat), Nat.le_of_ble_eq_true rfl, ?_⟩)
    conv => whnf
    rfl
  obtain ⟨r, hr⟩ : ∃ r, r = whereS name 0 l := ⟨_, rfl⟩
  rw [← hr]
  refine call_clean (fn := Try.f26) rfl Try.func26 rfl rfl rfl rfl rfl (Nat.le_of_ble_eq_true rfl) ?_
  conv => whnf
  refine ⟨l.length + 1, by show l.length + 1 ≤ 4611686018427387904; omega, ?_⟩
  refine rounds_at (fun s (i : Int) => ⟨RG.of 19 [(8, .int .i64 i), (7, .int .i64 l.length), (1, .fn 27 [] [.vref [.str name] 0]), (0, .sl (entriesA l) l.length t)], s.h⟩) (fun i => 0 ≤ i ∧ i ≤ l.length ∧ r = whereS name i (l.drop i.toNat)) (fun i => (l.length - i).toNat) _ 0 ⟨by omega, by omega, hr⟩ (by show ((l.length : Int) - 0).toNat < l.length + 1; omega) (by kernel_rfl) ?_
  intro i m' hI ih
  dsimp only at hI ih ⊢
  obtain ⟨hI0, hI1, hI2⟩ := hI
  conv => whnf
  cases hlt : decide (i < (l.length : Int)) with
  | false =>
    have hlt := of_decide_eq_false hlt
    rw [List.drop_eq_nil_of_le (by omega)] at hI2
    clear ih
    conv => whnf
    (rw [hI2]; rfl)
  | true =>
    have hlt := of_decide_eq_true hlt
    obtain ⟨e, he⟩ : ∃ e, l[i.toNat]? = some e := ⟨_, List.getElem?_eq_getElem (by omega)⟩
    have hw : IntKind.wrap .i64 (i + 1) = i + 1 := wrap64 (by omega) (by omega)
    have hmu : (l.length - IntKind.wrap .i64 (i + 1)).toNat < (l.length - i).toNat := by rw [hw]; omega
    rw [whereS_drop hI0 he] at hI2
    have c2 : ∀ (f : FuncId) (h : H), (evAll TE (m + 2)).1 f (.fn 27 [] [.vref [.str name] 0]) [.agg (entryA e)] h = some (.ret (.bool (e.name == name)), h) := fun f h => c1 f h e
    have hc : i.toNat * 3 + 3 ≤ (entriesA l).length := by rw [entriesA_len]; omega
    have hd := entriesA_entry he
    have hst : (e.name == name) = false → 0 ≤ IntKind.wrap .i64 (i + 1) ∧ IntKind.wrap .i64 (i + 1) ≤ l.length ∧ r = whereS name (IntKind.wrap .i64 (i + 1)) (l.drop (IntKind.wrap .i64 (i + 1)).toNat) := by
      intro hq
      rw [hq, if_neg (fun h => Bool.noConfusion h)] at hI2
      rw [hw]
      exact ⟨by omega, by omega, hI2⟩
    have hfi : (e.name == name) = true → r = i := by
      intro hq
      rw [hq, if_pos rfl] at hI2
      exact hI2
    generalize (e.name == name) = q at c2 hst hfi
    clear c1 hI2
    obtain ⟨en, eno, ec⟩ := e
    unfold entryA at c2 hd
    dsimp only at c2 hd
    cases q with
    | true =>
      clear ih
      conv => whnf
      (refine runK_ret (ev_indexSl (sz := 3) rfl rfl rfl rfl hI0 hlt) ?_)
      conv => whnf
      (refine runK_ret (ev_loadVA (z := 3) rfl rfl rfl hc hd) ?_)
      conv => whnf
      with_reducible refine ⟨_, _, c2 _ _, ?_⟩
      conv => whnf
      (rw [hfi rfl])
    | false =>
      conv => whnf
      (refine runK_ret (ev_indexSl (sz := 3) rfl rfl rfl rfl hI0 hlt) ?_)
      conv => whnf
      (refine runK_ret (ev_loadVA (z := 3) rfl rfl rfl hc hd) ?_)
      conv => whnf
      with_reducible refine ⟨_, _, c2 _ _, ?_⟩
      conv => whnf
      (exact ih (IntKind.wrap .i64 (i + 1)) _ (hst rfl) hmu (by kernel_rfl))
def entsAt (ns : List NodeS) (d : Int) : List EntryS := match ns[d.toNat]? with
  | some x => x.ents
  | none => []
/-- The node of a name in a directory. -/
def entryS (ns : List NodeS) (d : Int) (name : List UInt8) : Int := if dirS ns d = true then if (name == [46]) = true then d else if (name == [46, 46]) = true then parentS ns d else match (entsAt ns d).find? (fun e => e.name == name) with
    | some e => e.node
    | none => 0
  else 0
set_option maxHeartbeats 8000000 in
theorem entry_c (m : Nat) (from_ : FuncId) (h : H) (ns : List NodeS) (t : Bool) (gen d : Int) (name : List UInt8) (hok : ∀ x ∈ ns, x.ok ∧ x.ents.length ≤ 140737488351232) : evCall TE (m + 4) from_ (.fn 12 [] []) [.agg [.sl (nodesA ns) ns.length t, .int .u32 gen], .int .i64 d, .str name] h = some (.ret (.int .i64 (entryS ns d name)), h) := by
  have c1 : ∀ (f : FuncId) (h : H), (evAll TE (m + 3)).1 f (.fn 14 [] []) [.agg [.sl (nodesA ns) ns.length t, .int .u32 gen], .int .i64 d, .int .u32 2] h = some (.ret (.bool (dirS ns d)), h) := fun f h => is_c (m + 1) f h ns t gen d 2
  cases hd : dirS ns d with
  | false =>
    rw [hd] at c1
    unfold entryS
    rw [hd, if_neg (fun h => Bool.noConfusion h)]
    refine call_clean (fn := Try.f12) rfl Try.func12 rfl rfl rfl rfl rfl (Nat.le_of_ble_eq_true rfl) ?_
    conv => whnf
    with_reducible refine ⟨_, _, c1 _ _, ?_⟩
    conv => whnf
  | true =>
    rw [hd] at c1
    have ht : thereS ns d = true := by unfold dirS at hd; rw [Bool.and_eq_true] at hd; exact hd.1
    obtain ⟨h1, h2, _⟩ := there_facts ht
    have h0 : 0 ≤ d := by omega
    obtain ⟨x, hx⟩ : ∃ x, ns[d.toNat]? = some x := ⟨_, List.getElem?_eq_getElem (by omega)⟩
    have hc1 : d.toNat * 25 + 25 ≤ (nodesA ns).length := by rw [nodesA_len]; omega
    have hd1 := nodesA_node hx
    have k1 := hok x (List.mem_of_getElem? hx)
    have hp : parentS ns d = x.parent := by unfold parentS; rw [hx]
    have hes : entsAt ns d = x.ents := by unfold entsAt; rw [hx]
    unfold entryS
    rw [hd, if_pos rfl, hp, hes]
    clear hp hes
    have c2 : ∀ (f : FuncId) (h : H), (evAll TE (m + 3)).1 f (.fn 26 [] []) [x.list, .fn 27 [] [.vref [.str name] 0]] h = some (.ret (.int .i64 (whereS name 0 x.ents)), h) := fun f h => idx_c m f h x.list x.ents k1.1.2 name k1.2
    have hi := whereS_some (name := name) x.ents 0 (by omega)
    have hno := whereS_none (name := name) x.ents 0 (by omega)
    have k1 := k1.1
    obtain ⟨kd, ge, mo, us, ng, li, xrs, xrn, xws, xwn, ts, tn, da, by_, vf, ta, ls, es, pa, nx⟩ := x
    simp only [NodeS.ok, rowOk, entsOk] at k1
    obtain ⟨hd3, hd4⟩ := k1
    dsimp only at c2 hi hno ⊢
    generalize whereS name 0 es = r at c2 hi hno
    cases q1 : (name == [46]) with
    | true =>
      rw [if_pos rfl]
      clear hi hno c2
      rcases hd3 with ⟨rfl, rfl⟩ | ⟨dt, rfl⟩ <;> rcases hd4 with ⟨rfl, rfl⟩ | ⟨lt, rfl⟩
      all_goals refine call_clean (fn := Try.f12) rfl Try.func12 rfl rfl rfl rfl rfl (Nat.le_of_ble_eq_true rfl) ?_
      all_goals
        conv => whnf
        with_reducible refine ⟨_, _, c1 _ _, ?_⟩
        conv => whnf
        (refine runK_ret (ev_indexSl (cells := nodesA ns) (sz := 25) rfl rfl rfl rfl h0 h2) ?_)
        conv => whnf
        (refine runK_ret (ev_loadVA (z := 25) rfl rfl rfl hc1 hd1) ?_)
        conv => whnf
        ((with_reducible cases z0 : name == [UInt8.ofNat 46]) <;> try exact Bool.noConfusion (Eq.trans (Eq.symm z0) q1))
        conv => whnf
    | false =>
      rw [if_neg (fun h => Bool.noConfusion h)]
      cases q2 : (name == [46, 46]) with
      | true =>
        rw [if_pos rfl]
        clear hi hno c2
        rcases hd3 with ⟨rfl, rfl⟩ | ⟨dt, rfl⟩ <;> rcases hd4 with ⟨rfl, rfl⟩ | ⟨lt, rfl⟩
        all_goals refine call_clean (fn := Try.f12) rfl Try.func12 rfl rfl rfl rfl rfl (Nat.le_of_ble_eq_true rfl) ?_
        all_goals
          conv => whnf
          with_reducible refine ⟨_, _, c1 _ _, ?_⟩
          conv => whnf
          (refine runK_ret (ev_indexSl (cells := nodesA ns) (sz := 25) rfl rfl rfl rfl h0 h2) ?_)
          conv => whnf
          (refine runK_ret (ev_loadVA (z := 25) rfl rfl rfl hc1 hd1) ?_)
          conv => whnf
          ((with_reducible cases z0 : name == [UInt8.ofNat 46]) <;> try exact Bool.noConfusion (Eq.trans (Eq.symm z0) q1))
          conv => whnf
          ((with_reducible cases z1 : name == [UInt8.ofNat 46, UInt8.ofNat 46]) <;>     try exact Bool.noConfusion (Eq.trans (Eq.symm z1) q2))
          conv => whnf
      | false =>
        rw [if_neg (fun h => Bool.noConfusion h)]
        rcases hi with hi | ⟨k, e, hi, he, _, hfi⟩
        · rw [hno hi]
          subst hi
          clear hno
          rcases hd3 with ⟨rfl, rfl⟩ | ⟨dt, rfl⟩ <;> rcases hd4 with ⟨rfl, rfl⟩ | ⟨lt, rfl⟩
          all_goals refine call_clean (fn := Try.f12) rfl Try.func12 rfl rfl rfl rfl rfl (Nat.le_of_ble_eq_true rfl) ?_
          all_goals
            conv => whnf
            with_reducible refine ⟨_, _, c1 _ _, ?_⟩
            conv => whnf
            (refine runK_ret (ev_indexSl (cells := nodesA ns) (sz := 25) rfl rfl rfl rfl h0 h2) ?_)
            conv => whnf
            (refine runK_ret (ev_loadVA (z := 25) rfl rfl rfl hc1 hd1) ?_)
            conv => whnf
            ((with_reducible cases z0 : name == [UInt8.ofNat 46]) <;> try exact Bool.noConfusion (Eq.trans (Eq.symm z0) q1))
            conv => whnf
            ((with_reducible cases z1 : name == [UInt8.ofNat 46, UInt8.ofNat 46]) <;>     try exact Bool.noConfusion (Eq.trans (Eq.symm z1) q2))
            conv => whnf
            (refine ⟨_, _, call_lend rfl rfl rfl rfl rfl (c2 _ _), ?_⟩)
            conv => whnf
        · rw [hfi]
          clear hno hfi
          have hk := (List.getElem?_eq_some_iff.1 he).1
          have hr0 : 0 ≤ r := by omega
          have hrl : r < (es.length : Int) := by omega
          have hrn : decide (r < 0) = false := decide_eq_false (by omega)
          have he : es[r.toNat]? = some e := by rw [show r.toNat = k by omega]; exact he
          clear hi
          rcases hd4 with ⟨rfl, rfl⟩ | ⟨lt, rfl⟩
          · simp at he
          rcases hd3 with ⟨rfl, rfl⟩ | ⟨dt, rfl⟩
          all_goals refine call_clean (fn := Try.f12) rfl Try.func12 rfl rfl rfl rfl rfl (Nat.le_of_ble_eq_true rfl) ?_
          all_goals
            conv => whnf
            with_reducible refine ⟨_, _, c1 _ _, ?_⟩
            conv => whnf
            (refine runK_ret (ev_indexSl (cells := nodesA ns) (sz := 25) rfl rfl rfl rfl h0 h2) ?_)
            conv => whnf
            (refine runK_ret (ev_loadVA (z := 25) rfl rfl rfl hc1 hd1) ?_)
            conv => whnf
            ((with_reducible cases z0 : name == [UInt8.ofNat 46]) <;> try exact Bool.noConfusion (Eq.trans (Eq.symm z0) q1))
            conv => whnf
            ((with_reducible cases z1 : name == [UInt8.ofNat 46, UInt8.ofNat 46]) <;>     try exact Bool.noConfusion (Eq.trans (Eq.symm z1) q2))
            conv => whnf
            (refine ⟨_, _, call_lend rfl rfl rfl rfl rfl (c2 _ _), ?_⟩)
            conv => whnf
            ((with_reducible cases z2 : decide (r < Int.ofNat 0)) <;> try exact Bool.noConfusion (Eq.trans (Eq.symm z2) hrn))
            conv => whnf
            (refine runK_ret (ev_indexSl (cells := entriesA es) (sz := 3) rfl rfl rfl rfl hr0 hrl) ?_)
            conv => whnf
            (refine runK_ret (ev_loadV (z := 1) rfl rfl rfl ((entriesA_cell he 1 (by decide)).trans rfl)) ?_)
            conv => whnf
end Go.Proofs.Ytnfkpnfafekflaa.Ab
/- Over the engine: the entries of a directory. -/
namespace Go.Proofs.Ytnfkpnfafekflaa.Ab
open Go Go.RowKit

set_option maxRecDepth 100000
def isNamed (prev : List EntryS) (s : List UInt8) : Bool := prev.any fun e => s == e.name
def namesA (prev : List EntryS) : List (AV × AV) := prev.map fun e => (.str e.name, .int .i64 1)
theorem find_none : ∀ (prev : List EntryS) (s : List UInt8) (i : Nat), isNamed prev s = false → findA (.str s) (namesA prev) i = some none
  | [], _, _, _ => rfl
  | e :: r, s, i, h => by
    unfold isNamed at h
    rw [List.any_cons, Bool.or_eq_false_iff] at h
    show (match sameCell (.str s) (.str e.name) with | some true => _ | some false => _ | none => _) = _
    simp only [sameCell, h.1]
    exact find_none r s (i + 1) h.2
theorem find_some : ∀ (prev : List EntryS) (s : List UInt8) (i : Nat), isNamed prev s = true → ∃ k, findA (.str s) (namesA prev) i = some (some (i + k, .int .i64 1)) ∧ ∀ w, findA (.str s) ((namesA prev).modify k fun e => (e.1, w)) i = some (some (i + k, w))
  | [], _, _, h => by simp [isNamed] at h
  | e :: r, s, i, h => by
    unfold isNamed at h
    rw [List.any_cons] at h
    cases hb : s == e.name with
    | true =>
      refine ⟨0, ?_, fun w => ?_⟩
      · show (match sameCell (.str s) (.str e.name) with | some true => _ | some false => _ | none => _) = _
        simp only [sameCell, hb]
        rfl
      · show (match sameCell (.str s) (.str e.name) with | some true => _ | some false => _ | none => _) = _
        simp only [sameCell, hb]
        rfl
    | false =>
      rw [hb, Bool.false_or] at h
      obtain ⟨k, h1, h2⟩ := find_some r s (i + 1) h
      refine ⟨k + 1, ?_, fun w => ?_⟩
      · show (match sameCell (.str s) (.str e.name) with | some true => _ | some false => _ | none => _) = _
        simp only [sameCell, hb]
        rw [show i + (k + 1) = i + 1 + k by omega]
        exact h1
      · show (match sameCell (.str s) (.str e.name) with | some true => _ | some false => _ | none => _) = _
        simp only [sameCell, hb]
        rw [show i + (k + 1) = i + 1 + k by omega]
        exact h2 w
theorem find_last : ∀ (prev : List EntryS) (s : List UInt8) (i : Nat) (w : AV), isNamed prev s = false → findA (.str s) (namesA prev ++ [(.str s, w)]) i = some (some (i + prev.length, w))
  | [], s, i, w, _ => by
    show (match sameCell (.str s) (.str s) with | some true => _ | some false => _ | none => _) = _
    simp only [sameCell, beq_self_eq_true]
    rfl
  | e :: r, s, i, w, h => by
    unfold isNamed at h
    rw [List.any_cons, Bool.or_eq_false_iff] at h
    show (match sameCell (.str s) (.str e.name) with | some true => _ | some false => _ | none => _) = _
    simp only [sameCell, h.1]
    rw [List.length_cons, show i + (r.length + 1) = i + 1 + r.length by omega]
    exact find_last r s (i + 1) w h.2
theorem topL_app2 : ∀ (a b : List AV), topL (a ++ b) = max (topL a) (topL b)
  | [], b => by simp [topL]
  | x :: a, b => by simp only [List.cons_append, topL, topL_app2 a b, Nat.max_assoc]
theorem names_top : ∀ prev : List EntryS, topL ((namesA prev).map (·.1)) = 0 ∧ topL ((namesA prev).map (·.2)) = 0
  | [] => ⟨rfl, rfl⟩
  | e :: r => by
    obtain ⟨h1, h2⟩ := names_top r
    constructor
    · show max 0 (topL ((namesA r).map (·.1))) = 0
      rw [h1]
      rfl
    · show max 0 (topL ((namesA r).map (·.2))) = 0
      rw [h2]
      rfl
theorem map_top {es : List (AV × AV)} (h1 : topL (es.map (·.1)) = 0) (h2 : topL (es.map (·.2)) = 0) : (AB.map es).top = 0 := by
  simp only [AB.top, h1, h2]
  rfl
theorem modify_top (prev : List EntryS) : ∀ k : Nat, (AB.map ((namesA prev).modify k fun e => (e.1, .int .i64 2))).top = 0 := by
  intro k
  refine map_top ?_ ?_
  · induction prev generalizing k with
    | nil => cases k <;> rfl
    | cons e r ih =>
      cases k with
      | zero =>
        show max 0 (topL ((namesA r).map (·.1))) = 0
        rw [(names_top r).1]
        rfl
      | succ k =>
        show max 0 (topL (((namesA r).modify k fun e => (e.1, .int .i64 2)).map (·.1))) = 0
        rw [ih k]
        rfl
  · induction prev generalizing k with
    | nil => cases k <;> rfl
    | cons e r ih =>
      cases k with
      | zero =>
        show max 0 (topL ((namesA r).map (·.2))) = 0
        rw [(names_top r).2]
        rfl
      | succ k =>
        show max 0 (topL (((namesA r).modify k fun e => (e.1, .int .i64 2)).map (·.2))) = 0
        rw [ih k]
        rfl
/-- What is bad about an entry, behind others. -/
def entBad (ns : List NodeS) (next : Int) (prev : List EntryS) (last : Int) (e : EntryS) : Bool :=
  decide (e.cookie ≤ last) || (decide (e.cookie ≥ next) || (isNamed prev e.name || ((nameSt e.name != 0) || (e.name == [46] || (e.name == [46, 46] || (e.node == 1 || !thereS ns e.node))))))
def entsBad (ns : List NodeS) (next : Int) : List EntryS → Int → List EntryS → Bool
  | _, last, [] => !decide (next > last)
  | prev, last, e :: r => entBad ns next prev last e || entsBad ns next (prev ++ [e]) e.cookie r
def entriesS (ns : List NodeS) (d : NodeS) : Bool := !decide ((d.ents.length : Int) > 1024) && !entsBad ns d.next [] 2 d.ents
def entryLS (ns : List NodeS) (t : Bool) (gen : Int) (d : NodeS) (a : Int × Int) : ST :=
  ⟨RG.of 79 [(17, .int .i64 a.1), (16, .int .i64 d.ents.length), (15, d.list), (6, .mref 2), (5, .int .u64 a.2), (3, .ref 1 0 0), (2, .ref 0 0 0)], ⟨[.cells [.sl (nodesA ns) ns.length t, .int .u32 gen] ⟨false, 0, false, true⟩, .cells (nodeA d) ⟨false, 0, false, true⟩, .map (namesA (d.ents.take a.1.toNat))], []⟩⟩
set_option maxHeartbeats 8000000 in
theorem entries_c (m : Nat) (from_ : FuncId) (h : H) (ns : List NodeS) (t : Bool) (gen : Int) (d : NodeS) (hd : d.ok) (hl : ∀ e ∈ d.ents, e.name.length ≤ 140737488351232) (hn : d.ents.length ≤ 140737488351232) : evCall TE (m + 5) from_ (.fn 21 [] []) [.agg [.sl (nodesA ns) ns.length t, .int .u32 gen], .agg (nodeA d)] h = some (.ret (.bool (entriesS ns d)), h) := by
  have c1 : ∀ (f : FuncId) (h : H) (e : EntryS), e ∈ d.ents → (evAll TE (m + 4)).1 f (.fn 32 [] []) [.str e.name] h = some (.ret (.int .u32 (nameSt e.name)), h) := fun f h e he => name_c m f h e.name (hl e he)
  have c2 : ∀ (f : FuncId) (h : H) (n : Int), (evAll TE (m + 4)).1 f (.fn 15 [] []) [.agg [.sl (nodesA ns) ns.length t, .int .u32 gen], .int .i64 n] h = some (.ret (.bool (thereS ns n)), h) := fun f h n => there_c (m + 3) f h _ ns (.inr ⟨t, rfl⟩) gen n
  obtain ⟨r, hr⟩ : ∃ r, r = entriesS ns d := ⟨_, rfl⟩
  rw [← hr]
  unfold entriesS at hr
  clear hl
  obtain ⟨kd, ge, mo, us, ng, li, xrs, xrn, xws, xwn, ts, tn, da, by_, vf, ta, ls, es, pa, nx⟩ := d
  obtain ⟨hd3, hd4⟩ := hd
  dsimp only at hd3 hd4 c1 hr hn
  rcases hd3 with ⟨rfl, rfl⟩ | ⟨dt, rfl⟩ <;> rcases hd4 with ⟨rfl, rfl⟩ | ⟨lt, rfl⟩
  · refine call_clean (fn := Try.f21) rfl Try.func21 rfl rfl rfl rfl rfl (Nat.le_of_ble_eq_true rfl) ?_
    conv => whnf
    (with_reducible refine ⟨(2 : Nat), ?_, ?_⟩; · exact Nat.le_of_ble_eq_true rfl)
    conv => whnf
    (rw [hr]; simp [entsBad])
  · refine call_clean (fn := Try.f21) rfl Try.func21 rfl rfl rfl rfl rfl (Nat.le_of_ble_eq_true rfl) ?_
    conv => whnf
    cases hg : decide ((es.length : Int) > 1024) with
    | true =>
      conv => whnf
      rw [hr, hg]
      rfl
    | false =>
      rw [hg, Bool.not_false, Bool.true_and] at hr
      conv => whnf
      refine ⟨es.length + 1, by show es.length + 1 ≤ 4611686018427387904; omega, ?_⟩
      refine rounds_ind (entryLS ns t gen ⟨kd, ge, mo, us, ng, li, xrs, xrn, xws, xwn, ts, tn, .sl0, [], vf, ta, (.sl (entriesA es) es.length lt), es, pa, nx⟩) (fun a => 0 ≤ a.1 ∧ a.1 ≤ es.length ∧ r = !entsBad ns nx (es.take a.1.toNat) a.2 (es.drop a.1.toNat)) (fun a => (es.length - a.1).toNat) ?_ _ (0, 2) _ ⟨by omega, by omega, hr⟩ (by simp only; omega) (by kernel_rfl)
      intro a m' hI ih
      obtain ⟨i, la⟩ := a
      dsimp only at hI ih ⊢
      obtain ⟨hI0, hI1, hI2⟩ := hI
      conv => whnf
      cases h1 : decide (i < (es.length : Int)) with
      | false =>
        have h1 := of_decide_eq_false h1
        rw [List.drop_eq_nil_of_le (by omega)] at hI2
        conv => whnf
        (rw [hI2]; simp [entsBad])
      | true =>
        have h1 := of_decide_eq_true h1
        obtain ⟨e, he⟩ : ∃ e, es[i.toNat]? = some e := ⟨_, List.getElem?_eq_getElem (by omega)⟩
        have hc1 : i.toNat * 3 + 3 ≤ (entriesA es).length := by rw [entriesA_len]; omega
        have hd1 := entriesA_entry he
        have c3 := fun f h => c1 f h e (List.mem_of_getElem? he)
        have hdr : es.drop i.toNat = e :: es.drop (i.toNat + 1) := by
          obtain ⟨h3, rfl⟩ := List.getElem?_eq_some_iff.1 he
          exact List.drop_eq_getElem_cons h3
        have htk : es.take (i.toNat + 1) = es.take i.toNat ++ [e] := by
          obtain ⟨h3, rfl⟩ := List.getElem?_eq_some_iff.1 he
          exact List.take_succ_eq_append_getElem h3
        rw [hdr, entsBad] at hI2
        have hw : IntKind.wrap .i64 (i + 1) = i + 1 := wrap64 (by omega) (by omega)
        have hmu : (es.length - IntKind.wrap .i64 (i + 1)).toNat < (es.length - i).toNat := by rw [hw]; omega
        have htn : (IntKind.wrap .i64 (i + 1)).toNat = i.toNat + 1 := by rw [hw]; omega
        have hst : entBad ns nx (es.take i.toNat) la e = false → 0 ≤ IntKind.wrap .i64 (i + 1) ∧ IntKind.wrap .i64 (i + 1) ≤ es.length ∧ r = !entsBad ns nx (es.take (IntKind.wrap .i64 (i + 1)).toNat) e.cookie (es.drop (IntKind.wrap .i64 (i + 1)).toNat) := by
          intro hb
          rw [hb, Bool.false_or] at hI2
          rw [htn, htk]
          exact ⟨by rw [hw]; omega, by rw [hw]; omega, hI2⟩
        have hfa : entBad ns nx (es.take i.toNat) la e = true → r = false := by
          intro hb
          rw [hI2, hb]
          rfl
        have hnm : namesA (es.take (IntKind.wrap .i64 (i + 1)).toNat) = namesA (es.take i.toNat) ++ [(.str e.name, .int .i64 1)] := by
          rw [htn, htk]
          simp [namesA]
        obtain ⟨bd, hbd⟩ : ∃ b, b = entBad ns nx (es.take i.toNat) la e := ⟨_, rfl⟩
        rw [← hbd] at hst hfa
        unfold entBad at hbd
        clear hI2 hdr htk
        generalize es.take i.toNat = prev at *
        generalize nameSt e.name = nst at c3 hbd
        obtain ⟨xa, xb, xc⟩ := e
        dsimp only at c3 hbd hst hnm hd1
        generalize hth : thereS ns xb = th at hbd
        have c4 := fun f h => c2 f h xb
        rw [hth] at c4
        cases hnd : isNamed prev xa with
        | true =>
          obtain ⟨k, hf1, hf2⟩ := find_some prev xa 0 hnd
          have hbt : bd = true := by rw [hbd, hnd]; simp
          rw [Nat.zero_add] at hf1
          rw [hbt] at hfa
          have hf3 := hf2 (.int .i64 2)
          rw [Nat.zero_add] at hf3
          conv => whnf
          (refine runK_ret (ev_indexSl (sz := 3) rfl rfl rfl rfl hI0 h1) ?_)
          conv => whnf
          (refine runK_ret (ev_loadVA (z := 3) rfl rfl rfl hc1 hd1) ?_)
          conv => whnf
          (refine runK_ret (v := .int .i64 1) (w := .none) (by simp only [hf1]; rfl) ?_)
          conv => whnf
          (refine     runK_ret (v := .tup []) (w := .blk 2 (.map ((namesA prev).modify k fun e => (e.1, .int .i64 2))))       (by simp only [mapSetA, hf1]; rfl) ?_)
          conv => whnf
          (refine listK_of (if_pos (by rw [modify_top]; exact Nat.zero_le _)) ?_)
          conv => whnf
          cases z0 : decide (xc ≤ la)
          · conv => whnf
            cases z1 : decide (xc ≥ nx)
            · conv => whnf
              (refine runK_ret (v := .int .i64 2) (w := .none) (by simp only [hf3]; rfl) ?_)
              conv => whnf
              (rw [hfa rfl])
            · conv => whnf
              (rw [hfa rfl])
          · conv => whnf
            (rw [hfa rfl])
        | false =>
          have hf1 := find_none prev xa 0 hnd
          have hf2 := find_last prev xa 0 (.int .i64 1) hnd
          rw [hnd] at hbd
          have htp : topL ((namesA prev ++ [(AV.str xa, AV.int .i64 1)]).map (·.1)) = 0 ∧ topL ((namesA prev ++ [(AV.str xa, AV.int .i64 1)]).map (·.2)) = 0 := by
            rw [List.map_append, List.map_append, topL_app2, topL_app2, (names_top prev).1, (names_top prev).2]
            exact ⟨rfl, rfl⟩
          conv => whnf
          (refine runK_ret (ev_indexSl (sz := 3) rfl rfl rfl rfl hI0 h1) ?_)
          conv => whnf
          (refine runK_ret (ev_loadVA (z := 3) rfl rfl rfl hc1 hd1) ?_)
          conv => whnf
          (refine runK_ret (v := .int .i64 0) (w := .none) (by simp only [hf1]; rfl) ?_)
          conv => whnf
          (refine     runK_ret (v := .tup []) (w := .blk 2 (.map (namesA prev ++ [(.str xa, .int .i64 1)])))       (by simp only [mapSetA, hf1]; rfl) ?_)
          conv => whnf
          (refine listK_of (if_pos (by rw [map_top htp.1 htp.2]; exact Nat.zero_le _)) ?_)
          conv => whnf
          cases z0 : decide (xc ≤ la)
          · conv => whnf
            cases z1 : decide (xc ≥ nx)
            · conv => whnf
              (refine runK_ret (v := .int .i64 1) (w := .none) (by simp only [hf2]; rfl) ?_)
              conv => whnf
              with_reducible refine ⟨_, _, c3 _ _, ?_⟩
              conv => whnf
              cases z2 : nst != Int.ofNat 0
              · conv => whnf
                cases z3 : xa == [UInt8.ofNat 46]
                · conv => whnf
                  cases z4 : xa == [UInt8.ofNat 46, UInt8.ofNat 46]
                  · conv => whnf
                    cases z5 : xb == Int.ofNat 1
                    · conv => whnf
                      with_reducible refine ⟨_, _, c4 _ _, ?_⟩
                      conv => whnf
                      cases th
                      · conv => whnf
                        (rw [hfa (by clear ih; rw [hbd]; simp_all)])
                      · conv => whnf
                        (exact     ih (IntKind.wrap .i64 (i + 1), xc) _ (hst (by clear ih; rw [hbd]; simp_all)) hmu       (by unfold entryLS; dsimp only; rw [hnm]; kernel_rfl))
                    · conv => whnf
                      (rw [hfa (by clear ih; rw [hbd]; simp_all)])
                  · conv => whnf
                    (rw [hfa (by clear ih; rw [hbd]; simp_all)])
                · conv => whnf
                  (rw [hfa (by clear ih; rw [hbd]; simp_all)])
              · conv => whnf
                (rw [hfa (by clear ih; rw [hbd]; simp_all)])
            · conv => whnf
              (rw [hfa (by clear ih; rw [hbd]; simp_all)])
          · conv => whnf
            (rw [hfa (by clear ih; rw [hbd]; simp_all)])
  · refine call_clean (fn := Try.f21) rfl Try.func21 rfl rfl rfl rfl rfl (Nat.le_of_ble_eq_true rfl) ?_
    conv => whnf
    (with_reducible refine ⟨(2 : Nat), ?_, ?_⟩; · exact Nat.le_of_ble_eq_true rfl)
    conv => whnf
    (rw [hr]; simp [entsBad])
  · refine call_clean (fn := Try.f21) rfl Try.func21 rfl rfl rfl rfl rfl (Nat.le_of_ble_eq_true rfl) ?_
    conv => whnf
    cases hg : decide ((es.length : Int) > 1024) with
    | true =>
      conv => whnf
      rw [hr, hg]
      rfl
    | false =>
      rw [hg, Bool.not_false, Bool.true_and] at hr
      conv => whnf
      refine ⟨es.length + 1, by show es.length + 1 ≤ 4611686018427387904; omega, ?_⟩
      refine rounds_ind (entryLS ns t gen ⟨kd, ge, mo, us, ng, li, xrs, xrn, xws, xwn, ts, tn, (.sl (numsA .u8 by_) by_.length dt), by_, vf, ta, (.sl (entriesA es) es.length lt), es, pa, nx⟩) (fun a => 0 ≤ a.1 ∧ a.1 ≤ es.length ∧ r = !entsBad ns nx (es.take a.1.toNat) a.2 (es.drop a.1.toNat)) (fun a => (es.length - a.1).toNat) ?_ _ (0, 2) _ ⟨by omega, by omega, hr⟩ (by simp only; omega) (by kernel_rfl)
      intro a m' hI ih
      obtain ⟨i, la⟩ := a
      dsimp only at hI ih ⊢
      obtain ⟨hI0, hI1, hI2⟩ := hI
      conv => whnf
      cases h1 : decide (i < (es.length : Int)) with
      | false =>
        have h1 := of_decide_eq_false h1
        rw [List.drop_eq_nil_of_le (by omega)] at hI2
        conv => whnf
        (rw [hI2]; simp [entsBad])
      | true =>
        have h1 := of_decide_eq_true h1
        obtain ⟨e, he⟩ : ∃ e, es[i.toNat]? = some e := ⟨_, List.getElem?_eq_getElem (by omega)⟩
        have hc1 : i.toNat * 3 + 3 ≤ (entriesA es).length := by rw [entriesA_len]; omega
        have hd1 := entriesA_entry he
        have c3 := fun f h => c1 f h e (List.mem_of_getElem? he)
        have hdr : es.drop i.toNat = e :: es.drop (i.toNat + 1) := by
          obtain ⟨h3, rfl⟩ := List.getElem?_eq_some_iff.1 he
          exact List.drop_eq_getElem_cons h3
        have htk : es.take (i.toNat + 1) = es.take i.toNat ++ [e] := by
          obtain ⟨h3, rfl⟩ := List.getElem?_eq_some_iff.1 he
          exact List.take_succ_eq_append_getElem h3
        rw [hdr, entsBad] at hI2
        have hw : IntKind.wrap .i64 (i + 1) = i + 1 := wrap64 (by omega) (by omega)
        have hmu : (es.length - IntKind.wrap .i64 (i + 1)).toNat < (es.length - i).toNat := by rw [hw]; omega
        have htn : (IntKind.wrap .i64 (i + 1)).toNat = i.toNat + 1 := by rw [hw]; omega
        have hst : entBad ns nx (es.take i.toNat) la e = false → 0 ≤ IntKind.wrap .i64 (i + 1) ∧ IntKind.wrap .i64 (i + 1) ≤ es.length ∧ r = !entsBad ns nx (es.take (IntKind.wrap .i64 (i + 1)).toNat) e.cookie (es.drop (IntKind.wrap .i64 (i + 1)).toNat) := by
          intro hb
          rw [hb, Bool.false_or] at hI2
          rw [htn, htk]
          exact ⟨by rw [hw]; omega, by rw [hw]; omega, hI2⟩
        have hfa : entBad ns nx (es.take i.toNat) la e = true → r = false := by
          intro hb
          rw [hI2, hb]
          rfl
        have hnm : namesA (es.take (IntKind.wrap .i64 (i + 1)).toNat) = namesA (es.take i.toNat) ++ [(.str e.name, .int .i64 1)] := by
          rw [htn, htk]
          simp [namesA]
        obtain ⟨bd, hbd⟩ : ∃ b, b = entBad ns nx (es.take i.toNat) la e := ⟨_, rfl⟩
        rw [← hbd] at hst hfa
        unfold entBad at hbd
        clear hI2 hdr htk
        generalize es.take i.toNat = prev at *
        generalize nameSt e.name = nst at c3 hbd
        obtain ⟨xa, xb, xc⟩ := e
        dsimp only at c3 hbd hst hnm hd1
        generalize hth : thereS ns xb = th at hbd
        have c4 := fun f h => c2 f h xb
        rw [hth] at c4
        cases hnd : isNamed prev xa with
        | true =>
          obtain ⟨k, hf1, hf2⟩ := find_some prev xa 0 hnd
          have hbt : bd = true := by rw [hbd, hnd]; simp
          rw [Nat.zero_add] at hf1
          rw [hbt] at hfa
          have hf3 := hf2 (.int .i64 2)
          rw [Nat.zero_add] at hf3
          conv => whnf
          (refine runK_ret (ev_indexSl (sz := 3) rfl rfl rfl rfl hI0 h1) ?_)
          conv => whnf
          (refine runK_ret (ev_loadVA (z := 3) rfl rfl rfl hc1 hd1) ?_)
          conv => whnf
          (refine runK_ret (v := .int .i64 1) (w := .none) (by simp only [hf1]; rfl) ?_)
          conv => whnf
          (refine     runK_ret (v := .tup []) (w := .blk 2 (.map ((namesA prev).modify k fun e => (e.1, .int .i64 2))))       (by simp only [mapSetA, hf1]; rfl) ?_)
          conv => whnf
          (refine listK_of (if_pos (by rw [modify_top]; exact Nat.zero_le _)) ?_)
          conv => whnf
          cases z0 : decide (xc ≤ la)
          · conv => whnf
            cases z1 : decide (xc ≥ nx)
            · conv => whnf
              (refine runK_ret (v := .int .i64 2) (w := .none) (by simp only [hf3]; rfl) ?_)
              conv => whnf
              (rw [hfa rfl])
            · conv => whnf
              (rw [hfa rfl])
          · conv => whnf
            (rw [hfa rfl])
        | false =>
          have hf1 := find_none prev xa 0 hnd
          have hf2 := find_last prev xa 0 (.int .i64 1) hnd
          rw [hnd] at hbd
          have htp : topL ((namesA prev ++ [(AV.str xa, AV.int .i64 1)]).map (·.1)) = 0 ∧ topL ((namesA prev ++ [(AV.str xa, AV.int .i64 1)]).map (·.2)) = 0 := by
            rw [List.map_append, List.map_append, topL_app2, topL_app2, (names_top prev).1, (names_top prev).2]
            exact ⟨rfl, rfl⟩
          conv => whnf
          (refine runK_ret (ev_indexSl (sz := 3) rfl rfl rfl rfl hI0 h1) ?_)
          conv => whnf
          (refine runK_ret (ev_loadVA (z := 3) rfl rfl rfl hc1 hd1) ?_)
          conv => whnf
          (refine runK_ret (v := .int .i64 0) (w := .none) (by simp only [hf1]; rfl) ?_)
          conv => whnf
          (refine     runK_ret (v := .tup []) (w := .blk 2 (.map (namesA prev ++ [(.str xa, .int .i64 1)])))       (by simp only [mapSetA, hf1]; rfl) ?_)
          conv => whnf
          (refine listK_of (if_pos (by rw [map_top htp.1 htp.2]; exact Nat.zero_le _)) ?_)
          conv => whnf
          cases z0 : decide (xc ≤ la)
          · conv => whnf
            cases z1 : decide (xc ≥ nx)
            · conv => whnf
              (refine runK_ret (v := .int .i64 1) (w := .none) (by simp only [hf2]; rfl) ?_)
              conv => whnf
              with_reducible refine ⟨_, _, c3 _ _, ?_⟩
              conv => whnf
              cases z2 : nst != Int.ofNat 0
              · conv => whnf
                cases z3 : xa == [UInt8.ofNat 46]
                · conv => whnf
                  cases z4 : xa == [UInt8.ofNat 46, UInt8.ofNat 46]
                  · conv => whnf
                    cases z5 : xb == Int.ofNat 1
                    · conv => whnf
                      with_reducible refine ⟨_, _, c4 _ _, ?_⟩
                      conv => whnf
                      cases th
                      · conv => whnf
                        (rw [hfa (by clear ih; rw [hbd]; simp_all)])
                      · conv => whnf
                        (exact     ih (IntKind.wrap .i64 (i + 1), xc) _ (hst (by clear ih; rw [hbd]; simp_all)) hmu       (by unfold entryLS; dsimp only; rw [hnm]; kernel_rfl))
                    · conv => whnf
                      (rw [hfa (by clear ih; rw [hbd]; simp_all)])
                  · conv => whnf
                    (rw [hfa (by clear ih; rw [hbd]; simp_all)])
                · conv => whnf
                  (rw [hfa (by clear ih; rw [hbd]; simp_all)])
              · conv => whnf
                (rw [hfa (by clear ih; rw [hbd]; simp_all)])
            · conv => whnf
              (rw [hfa (by clear ih; rw [hbd]; simp_all)])
          · conv => whnf
            (rw [hfa (by clear ih; rw [hbd]; simp_all)])
end Go.Proofs.Ytnfkpnfafekflaa.Ab
/- Over the engine: nodes that have what they may not; directories within one another. -/
namespace Go.Proofs.Ytnfkpnfafekflaa.Ab
open Go Go.RowKit

set_option maxRecDepth 100000
theorem bad1_c (m : Nat) (from_ : FuncId) (h : H) (x : NodeS) (hx : x.ok) (hl : x.target.length ≤ 140737488351232) : evCall TE (m + 6) from_ (.fn 17 [] []) [.agg (nodeA x)] h = some (.ret (.bool (!onlyS x)), h) := by
  have c1 : ∀ (f : FuncId) (h : H), (evAll TE (m + 5)).1 f (.fn 18 [] []) [.agg (nodeA x)] h = some (.ret (.bool (onlyS x)), h) := fun f h => only_c m f h x hx hl
  generalize onlyS x = q at c1 ⊢
  unfold nodeA at c1 ⊢
  obtain ⟨kd, ge, mo, us, ng, li, xrs, xrn, xws, xwn, ts, tn, da, by_, vf, ta, ls, es, pa, nx⟩ := x
  simp only [NodeS.ok, rowOk, entsOk] at hx
  obtain ⟨hd3, hd4⟩ := hx
  dsimp only at c1 ⊢
  rcases hd3 with ⟨rfl, rfl⟩ | ⟨dt, rfl⟩ <;> rcases hd4 with ⟨rfl, rfl⟩ | ⟨lt, rfl⟩
  all_goals refine call_clean (fn := Try.f17) rfl Try.func17 rfl rfl rfl rfl rfl (Nat.le_of_ble_eq_true rfl) ?_
  all_goals
    conv => whnf
    with_reducible refine ⟨_, _, c1 _ _, ?_⟩
    conv => whnf
def anyBad (ns : List NodeS) : Bool := ns.any fun x => !onlyS x
theorem anyBad_drop {ns : List NodeS} {i : Nat} {x : NodeS} (h : ns[i]? = some x) : anyBad (ns.drop i) = (!onlyS x || anyBad (ns.drop (i + 1))) := by
  obtain ⟨h1, rfl⟩ := List.getElem?_eq_some_iff.1 h
  unfold anyBad
  rw [List.drop_eq_getElem_cons h1, List.any_cons]
def idxbS (ns : List NodeS) (t : Bool) (i : Int) : ST :=
  ⟨RG.of 19 [(8, .int .i64 i), (7, .int .i64 ns.length), (1, .fn 17 [] []), (0, .sl (nodesA ns) ns.length t)], ⟨[], []⟩⟩
set_option maxHeartbeats 4000000 in
theorem index_bad (m : Nat) (ns : List NodeS) (t : Bool) (hok : ∀ x ∈ ns, x.ok ∧ x.target.length ≤ 140737488351232) (hl : ns.length ≤ 140737488351232) : ∃ v, (∃ r : Int, v = .int .i64 r ∧ decide (r ≥ 0) = anyBad ns) ∧ ∀ (from_ : FuncId) (h : H), evCall TE (m + 7) from_ (.fn 29 [] []) [.sl (nodesA ns) ns.length t, .fn 17 [] []] h = some (.ret v, h) := by
  refine call_cleanP (fn := Try.f29) rfl Try.func29 rfl (fun _ => rfl) rfl rfl (Nat.le_of_ble_eq_true rfl) ?_
  conv => whnf
  refine ⟨ns.length + 1, by show ns.length + 1 ≤ 4611686018427387904; omega, ?_⟩
  refine rounds_ind (idxbS ns t) (fun i => 0 ≤ i ∧ i ≤ ns.length ∧ anyBad ns = anyBad (ns.drop i.toNat)) (fun i => (ns.length - i).toNat) ?_ _ 0 _ ⟨by omega, by omega, rfl⟩ (by omega) (by kernel_rfl)
  intro i m' hI ih
  obtain ⟨hI0, hI1, hI2⟩ := hI
  conv => whnf
  cases h1 : decide (i < (ns.length : Int)) with
  | false =>
    have h1 := of_decide_eq_false h1
    rw [List.drop_eq_nil_of_le (by omega)] at hI2
    conv => whnf
    (exact ⟨rfl, _, rfl, by rw [hI2]; rfl⟩)
  | true =>
    have h1 := of_decide_eq_true h1
    obtain ⟨x, hx⟩ : ∃ x, ns[i.toNat]? = some x := ⟨_, List.getElem?_eq_getElem (by omega)⟩
    have hc1 : i.toNat * 25 + 25 ≤ (nodesA ns).length := by rw [nodesA_len]; omega
    have hd1 := nodesA_node hx
    have k1 := hok x (List.mem_of_getElem? hx)
    have c1 : ∀ (f : FuncId) (h : H), (evAll TE (m + 6)).1 f (.fn 17 [] []) [.agg (nodeA x)] h = some (.ret (.bool (!onlyS x)), h) := fun f h => bad1_c m f h x k1.1 k1.2
    rw [anyBad_drop hx] at hI2
    generalize onlyS x = q at c1 hI2
    unfold nodeA at c1
    have hw : IntKind.wrap .i64 (i + 1) = i + 1 := wrap64 (by omega) (by omega)
    have hmu : (ns.length - IntKind.wrap .i64 (i + 1)).toNat < (ns.length - i).toNat := by rw [hw]; omega
    have hst : q = true → 0 ≤ IntKind.wrap .i64 (i + 1) ∧ IntKind.wrap .i64 (i + 1) ≤ ns.length ∧ anyBad ns = anyBad (ns.drop (IntKind.wrap .i64 (i + 1)).toNat) := by
      intro he
      rw [he] at hI2
      rw [hw, show (i + 1).toNat = i.toNat + 1 by omega]
      exact ⟨by omega, by omega, hI2⟩
    have hfa : q = false → decide (i ≥ 0) = anyBad ns := by
      intro he
      rw [hI2, he, decide_eq_true hI0]
      rfl
    cases q with
    | true =>
      conv => whnf
      (refine runK_ret (ev_indexSl (sz := 25) rfl rfl rfl rfl hI0 h1) ?_)
      conv => whnf
      (refine runK_ret (ev_loadVA (z := 25) rfl rfl rfl hc1 hd1) ?_)
      conv => whnf
      with_reducible refine ⟨_, _, c1 _ _, ?_⟩
      conv => whnf
      (exact ih (IntKind.wrap .i64 (i + 1)) _ (hst rfl) hmu (by kernel_rfl))
    | false =>
      conv => whnf
      (refine runK_ret (ev_indexSl (sz := 25) rfl rfl rfl rfl hI0 h1) ?_)
      conv => whnf
      (refine runK_ret (ev_loadVA (z := 25) rfl rfl rfl hc1 hd1) ?_)
      conv => whnf
      with_reducible refine ⟨_, _, c1 _ _, ?_⟩
      conv => whnf
      (exact ⟨rfl, _, rfl, hfa rfl⟩)
theorem contains_bad (m : Nat) (from_ : FuncId) (h : H) (ns : List NodeS) (t : Bool) (hok : ∀ x ∈ ns, x.ok ∧ x.target.length ≤ 140737488351232) (hl : ns.length ≤ 140737488351232) : evCall TE (m + 8) from_ (.fn 16 [] []) [.sl (nodesA ns) ns.length t, .fn 17 [] []] h = some (.ret (.bool (anyBad ns)), h) := by
  obtain ⟨_, ⟨r, rfl, hr⟩, hc⟩ := index_bad m ns t hok hl
  have c1 : ∀ (f : FuncId) (h : H), (evAll TE (m + 7)).1 f (.fn 29 [] []) [.sl (nodesA ns) ns.length t, .fn 17 [] []] h = some (.ret (.int .i64 r), h) := fun f h => hc f h
  rw [← hr]
  refine call_clean (fn := Try.f16) rfl Try.func16 rfl rfl rfl rfl rfl (Nat.le_of_ble_eq_true rfl) ?_
  conv => whnf
  with_reducible refine ⟨_, _, c1 _ _, ?_⟩
  conv => whnf
end Go.Proofs.Ytnfkpnfafekflaa.Ab
/- Over the engine: how great a tree is. -/
namespace Go.Proofs.Ytnfkpnfafekflaa.Ab
open Go Go.RowKit

def entsSize (l : List EntryS) : Int := l.length + (l.map fun e => (e.name.length : Int)).sum
def nodeSize (x : NodeS) : Int := 1 + x.target.length + x.bytes.length + entsSize x.ents
def nodesSize (l : List NodeS) : Int := l.length + (l.map nodeSize).sum
set_option maxRecDepth 100000
theorem sum_take {α : Type} (f : α → Int) {l : List α} {i : Nat} {x : α} (h : l[i]? = some x) : ((l.take (i + 1)).map f).sum = ((l.take i).map f).sum + f x := by
  rw [List.take_add_one, h]
  simp
theorem bytesSize_c (m : Nat) (from_ : FuncId) (h : H) (v : AV) (l : List Int) (hv : rowOk .u8 v l) : evCall TE (m + 1) from_ (.fn 44 [] []) [v] h = some (.ret (.int .i64 l.length), h) := by
  rcases hv with ⟨rfl, rfl⟩ | ⟨t, rfl⟩
  · skip
    kernel_rfl
  · skip
    kernel_rfl
def entsS (l : List EntryS) (t : Bool) (p : Int × Int) : ST :=
  ⟨RG.of 26 [(4, .int .i64 p.1), (3, .int .i64 p.2), (0, .sl (entriesA l) l.length t)], ⟨[], []⟩⟩
theorem entsSize_c (m : Nat) (v : AV) (l : List EntryS) (hv : entsOk v l) (hn : ∀ e ∈ l, e.name.length ≤ 140737488351232) (hl : l.length ≤ 140737488351232) :
    ∃ v', (∃ r : Int, v' = .int .i64 r ∧ 0 ≤ r ∧ r ≤ 281474976710656 ∧ (r ≤ 1048576 → r = entsSize l)) ∧ ∀ (from_ : FuncId) (h : H), evCall TE (m + 1) from_ (.fn 45 [] []) [v] h = some (.ret v', h) := by
  rcases hv with ⟨rfl, rfl⟩ | ⟨t, rfl⟩
  · refine ⟨_, ⟨0, rfl, by omega, by omega, fun _ => rfl⟩, fun from_ h => ?_⟩
    kernel_rfl
  · refine call_cleanP (fn := Try.f45) rfl Try.func45 rfl (fun _ => rfl) rfl rfl (Nat.le_of_ble_eq_true rfl) ?_
    conv => whnf
    refine ⟨l.length + 1, by show l.length + 1 ≤ 4611686018427387904; omega, ?_⟩
    refine rounds_ind (entsS l t) (fun p => 0 ≤ p.1 ∧ p.1 ≤ l.length ∧ 0 ≤ p.2 ∧ p.2 ≤ 281474976710656 ∧ (p.2 ≤ 1048576 → p.2 = l.length + ((l.take p.1.toNat).map fun e => (e.name.length : Int)).sum)) (fun p => (l.length - p.1).toNat) ?_ _ (0, l.length) _ ⟨by dsimp only; omega, by dsimp only; omega, by dsimp only; omega, by dsimp only; omega, fun _ => by simp⟩ (by simp) (by kernel_rfl)
    intro p m' hI ih
    obtain ⟨i, s⟩ := p
    dsimp only at hI ih ⊢
    conv => whnf
    cases h1 : decide (i < (l.length : Int)) with
    | false =>
      have h1 := of_decide_eq_false h1
      conv => whnf
      refine ⟨rfl, s, rfl, hI.2.2.1, hI.2.2.2.1, fun hs => ?_⟩
      rw [hI.2.2.2.2 hs, List.take_of_length_le (by omega)]
      rfl
    | true =>
      have h1 := of_decide_eq_true h1
      conv => whnf
      cases h2 : decide (s ≤ 1048576) with
      | false =>
        have h2 := of_decide_eq_false h2
        conv => whnf
        exact ⟨rfl, s, rfl, hI.2.2.1, hI.2.2.2.1, fun hs => absurd hs h2⟩
      | true =>
        have h2 := of_decide_eq_true h2
        obtain ⟨x, hx⟩ : ∃ x, l[i.toNat]? = some x := ⟨_, List.getElem?_eq_getElem (by omega)⟩
        have hxn := hn x (List.mem_of_getElem? hx)
        conv => whnf
        refine runK_ret (ev_indexSl (sz := 3) rfl rfl rfl rfl (by omega) h1) ?_
        conv => whnf
        refine runK_ret (ev_loadV (z := 1) rfl rfl rfl ((entriesA_cell hx 0 (by decide)).trans rfl)) ?_
        conv => whnf
        have hw : IntKind.wrap .i64 (i + 1) = i + 1 := wrap64 (by omega) (by omega)
        have hw2 : IntKind.wrap .i64 (s + (x.name.length : Int)) = s + x.name.length := wrap64 (by omega) (by omega)
        refine ih (IntKind.wrap .i64 (i + 1), IntKind.wrap .i64 (s + (x.name.length : Int))) _ ?_ ?_ (by kernel_rfl)
        · dsimp only
          rw [hw, hw2]
          refine ⟨by omega, by omega, by omega, by omega, fun _ => ?_⟩
          rw [show (i + 1).toNat = i.toNat + 1 by omega, sum_take _ hx, hI.2.2.2.2 h2]
          omega
        · dsimp only
          rw [hw]; omega
set_option maxHeartbeats 4000000 in
theorem nodeSize_c (m : Nat) (x : NodeS) (hok : x.ok) (hr : x.rng) :
    ∃ v', (∃ r : Int, v' = .int .i64 r ∧ 0 ≤ r ∧ r ≤ 1125899906842624 ∧ (r ≤ 1048576 → r = nodeSize x)) ∧ ∀ (from_ : FuncId) (h : H), evCall TE (m + 2) from_ (.fn 37 [] []) [.agg (nodeA x)] h = some (.ret v', h) := by
  have hb := fun (f : FuncId) (h : H) => bytesSize_c m f h x.data x.bytes hok.1
  have hbl := hr.bytesL
  have htl := hr.target
  have hel := hr.entsL
  obtain ⟨_, ⟨re, rfl, hr0, hr1, hr2⟩, he⟩ := entsSize_c m x.list x.ents hok.2 (fun e he => (hr.ents e he).1) (by omega)
  unfold nodeSize
  obtain ⟨kd, ge, mo, us, gr, li, rs, rn, ws, wn, ts, tn, da, by_, vf, ta, ls, es, pa, nx⟩ := x
  simp only [NodeS.ok, rowOk, entsOk] at hok
  obtain ⟨hd, hl⟩ := hok
  dsimp only at hb he hbl htl hel hr2 ⊢
  clear hr
  obtain ⟨bn, hbn⟩ : ∃ bn : Nat, by_.length = bn := ⟨_, rfl⟩
  rw [hbn] at hb hbl
  rw [hbn]
  clear hbn
  have hw0 : IntKind.wrap .i64 (1 + (ta.length : Int)) = 1 + ta.length := wrap64 (by omega) (by omega)
  have hw1 : IntKind.wrap .i64 (1 + (ta.length : Int) + (bn : Int)) = 1 + ta.length + bn := wrap64 (by omega) (by omega)
  have hw2 : IntKind.wrap .i64 (1 + (ta.length : Int) + (bn : Int) + re) = 1 + ta.length + bn + re := wrap64 (by omega) (by omega)
  rcases hd with ⟨rfl, rfl⟩ | ⟨dt, rfl⟩ <;> rcases hl with ⟨rfl, rfl⟩ | ⟨lt, rfl⟩
  all_goals
    refine call_cleanP (fn := Try.f37) rfl Try.func37 rfl (fun _ => rfl) rfl rfl (Nat.le_of_ble_eq_true rfl) ?_
    conv => whnf
    rw [hw0]
    cases h1 : decide (1 + (ta.length : Int) ≤ 1048576) with
    | false =>
      conv => whnf
      rw [h1]
      have h1 := of_decide_eq_false h1
      conv => whnf
      exact ⟨rfl, _, rfl, by omega, by omega, fun h => absurd h h1⟩
    | true =>
      have h1 := of_decide_eq_true h1
      conv => whnf
      refine ⟨_, _, hb _ _, ?_⟩
      conv => whnf
      rw [hw1]
      cases h2 : decide (1 + (ta.length : Int) + (bn : Int) ≤ 1048576) with
      | false =>
        have h2 := of_decide_eq_false h2
        conv => whnf
        exact ⟨rfl, _, rfl, by omega, by omega, fun h => absurd h h2⟩
      | true =>
        have h2 := of_decide_eq_true h2
        conv => whnf
        refine ⟨_, _, he _ _, ?_⟩
        conv => whnf
        rw [hw2]
        exact ⟨rfl, _, rfl, by omega, by omega, fun h => by rw [hr2 (by omega)]⟩
def nodesSS (l : List NodeS) (t : Bool) (p : Int × Int) : ST :=
  ⟨RG.of 25 [(4, .int .i64 p.1), (3, .int .i64 p.2), (0, .sl (nodesA l) l.length t)], ⟨[], []⟩⟩
set_option maxHeartbeats 1000000 in
theorem nodesSize_c (m : Nat) (v : AV) (l : List NodeS) (hv : nodesOk v l) (hok : ∀ x ∈ l, x.ok ∧ x.rng) (hl : l.length ≤ 140737488351232) :
    ∃ v', (∃ r : Int, v' = .int .i64 r ∧ 0 ≤ r ∧ r ≤ 2251799813685248 ∧ (r ≤ 1048576 → r = nodesSize l)) ∧ ∀ (from_ : FuncId) (h : H), evCall TE (m + 3) from_ (.fn 28 [] []) [v] h = some (.ret v', h) := by
  rcases hv with ⟨rfl, rfl⟩ | ⟨t, rfl⟩
  · refine ⟨_, ⟨0, rfl, by omega, by omega, fun _ => rfl⟩, fun from_ h => ?_⟩
    kernel_rfl
  · refine call_cleanP (fn := Try.f28) rfl Try.func28 rfl (fun _ => rfl) rfl rfl (Nat.le_of_ble_eq_true rfl) ?_
    conv => whnf
    refine ⟨l.length + 1, by show l.length + 1 ≤ 4611686018427387904; omega, ?_⟩
    refine rounds_ind (nodesSS l t) (fun p => 0 ≤ p.1 ∧ p.1 ≤ l.length ∧ 0 ≤ p.2 ∧ p.2 ≤ 2251799813685248 ∧ (p.2 ≤ 1048576 → p.2 = l.length + ((l.take p.1.toNat).map nodeSize).sum)) (fun p => (l.length - p.1).toNat) ?_ _ (0, l.length) _ ⟨by dsimp only; omega, by dsimp only; omega, by dsimp only; omega, by dsimp only; omega, fun _ => by simp⟩ (by simp) (by kernel_rfl)
    intro p m' hI ih
    obtain ⟨i, s⟩ := p
    dsimp only at hI ih ⊢
    conv => whnf
    cases h1 : decide (i < (l.length : Int)) with
    | false =>
      have h1 := of_decide_eq_false h1
      conv => whnf
      refine ⟨rfl, s, rfl, hI.2.2.1, hI.2.2.2.1, fun hs => ?_⟩
      rw [hI.2.2.2.2 hs, List.take_of_length_le (by omega)]
      rfl
    | true =>
      have h1 := of_decide_eq_true h1
      conv => whnf
      cases h2 : decide (s ≤ 1048576) with
      | false =>
        have h2 := of_decide_eq_false h2
        conv => whnf
        exact ⟨rfl, s, rfl, hI.2.2.1, hI.2.2.2.1, fun hs => absurd hs h2⟩
      | true =>
        have h2 := of_decide_eq_true h2
        obtain ⟨x, hx⟩ : ∃ x, l[i.toNat]? = some x := ⟨_, List.getElem?_eq_getElem (by omega)⟩
        have hxm := List.mem_of_getElem? hx
        obtain ⟨_, ⟨r, rfl, hr0, hr1, hr2⟩, hc⟩ := nodeSize_c m x (hok x hxm).1 (hok x hxm).2
        conv => whnf
        refine runK_ret (ev_indexSl (sz := 25) rfl rfl rfl rfl (by omega) h1) ?_
        conv => whnf
        have hlen : i.toNat * 25 + 25 ≤ (nodesA l).length := by rw [nodesA_len]; omega
        refine runK_ret (ev_loadVA (z := 25) rfl rfl rfl hlen (nodesA_node hx)) ?_
        conv => whnf
        refine ⟨_, _, hc _ _, ?_⟩
        conv => whnf
        have hw : IntKind.wrap .i64 (i + 1) = i + 1 := wrap64 (by omega) (by omega)
        have hw2 : IntKind.wrap .i64 (s + r) = s + r := wrap64 (by omega) (by omega)
        refine ih (IntKind.wrap .i64 (i + 1), IntKind.wrap .i64 (s + r)) _ ?_ ?_ (by kernel_rfl)
        · dsimp only
          rw [hw, hw2]
          refine ⟨by omega, by omega, by omega, by omega, fun _ => ?_⟩
          rw [show (i + 1).toNat = i.toNat + 1 by omega, sum_take _ hx, hI.2.2.2.2 h2, hr2 (by omega)]
          omega
        · dsimp only
          rw [hw]; omega
def treeSize (t : TreeS) : Int := 1 + nodesSize t.ns
theorem treeSize_c (m : Nat) (t : TreeS) (ht : t.ok) :
    ∃ v', (∃ r : Int, v' = .int .i64 r ∧ 0 ≤ r ∧ (r ≤ 1048576 → r = treeSize t)) ∧ ∀ (from_ : FuncId) (h : H), evCall TE (m + 4) from_ (.fn 13 [] []) [treeA t] h = some (.ret v', h) := by
  obtain ⟨_, ⟨r, rfl, hr0, hr1, hr2⟩, hc⟩ := nodesSize_c m t.v t.ns ht.v ht.ns ht.len
  have hv := ht.v
  obtain ⟨v, ns, gen⟩ := t
  dsimp only at hv hc hr2
  have hw : IntKind.wrap .i64 (1 + r) = 1 + r := wrap64 (by omega) (by omega)
  rcases hv with ⟨rfl, rfl⟩ | ⟨t, rfl⟩
  all_goals
    refine call_cleanP (fn := Try.f13) rfl Try.func13 rfl (fun _ => rfl) rfl rfl (Nat.le_of_ble_eq_true rfl) ?_
    conv => whnf
    refine ⟨_, _, hc _ _, ?_⟩
    conv => whnf
    rw [hw]
    exact ⟨rfl, _, rfl, by omega, fun h => by rw [hr2 (by omega)]; rfl⟩
end Go.Proofs.Ytnfkpnfafekflaa.Ab
/- Over the engine: trees that come as arguments. -/
namespace Go.Proofs.Ytnfkpnfafekflaa.Ab
open Go Go.RowKit

def timeTy : Ty := .seq [.int .u32, .int .u32]
def entryTy : Ty := .seq [.str, .int .i64, .int .u64]
def nodeTyL : List Ty := [.int .u32, .int .u32, .int .u32, .int .u32, .int .u32, .int .i64, timeTy, timeTy, timeTy, .sl 1 (.int .u8), .seq [.int .u8, .int .u8, .int .u8, .int .u8, .int .u8, .int .u8, .int .u8, .int .u8], .str, .sl 32 entryTy, .int .i64, .int .u64]
def nodeTy (B : Nat) : Ty := .sl B (.seq nodeTyL)
theorem rows_of {α : Type} (f : α → List AV) (P : α → Prop) : ∀ rows : List (List AV), (∀ r ∈ rows, ∃ x, r = f x ∧ P x) → ∃ l : List α, rows = l.map f ∧ ∀ x ∈ l, P x
  | [], _ => ⟨[], rfl, fun x h => by cases h⟩
  | r :: rows, h => by
    obtain ⟨x, hx, hp⟩ := h r (List.mem_cons_self ..)
    obtain ⟨l, hl, hP⟩ := rows_of f P rows fun r hr => h r (List.mem_cons_of_mem _ hr)
    exact ⟨x :: l, by rw [hx, hl]; rfl, fun y hy => by
      rcases List.mem_cons.1 hy with rfl | hy
      · exact hp
      · exact hP y hy⟩
theorem wf_u8 {x : Int} (h : (Lit.int .u8 x).wf = true) : 0 ≤ x ∧ x < 256 := by
  simp only [Lit.wf, Bool.and_eq_true, decide_eq_true_eq] at h
  rw [show IntKind.u8.min = 0 from rfl, show IntKind.u8.max = 255 from rfl] at h
  omega
theorem wf_i64 {x : Int} (h : (Lit.int .i64 x).wf = true) : -9223372036854775808 ≤ x ∧ x < 9223372036854775808 := by
  simp only [Lit.wf, Bool.and_eq_true, decide_eq_true_eq] at h
  rw [show IntKind.i64.min = -9223372036854775808 from rfl, show IntKind.i64.max = 9223372036854775807 from rfl] at h
  omega
theorem wf_u64 {x : Int} (h : (Lit.int .u64 x).wf = true) : 0 ≤ x ∧ x < 18446744073709551616 := by
  simp only [Lit.wf, Bool.and_eq_true, decide_eq_true_eq] at h
  rw [show IntKind.u64.min = 0 from rfl, show IntKind.u64.max = 18446744073709551615 from rfl] at h
  omega
theorem nums_flat (k : IntKind) : ∀ l : List Int, (l.map fun n : Int => [AV.int k n]).flatten = numsA k l
  | [] => rfl
  | n :: l => by
    rw [List.map_cons, List.flatten_cons, nums_flat k l]
    rfl
theorem sh_row {k : IntKind} {B : Nat} {v : AV} (h : Sh (.sl B (.int k)) [v]) : ∃ l, rowOk k v l ∧ (∀ n ∈ l, (Lit.int k n).wf = true) ∧ l.length * B ≤ 140737488351232 := by
  unfold Sh at h
  rcases h with h | ⟨rows, t, h, hr, hB, _⟩
  · cases h
    refine ⟨[], .inl ⟨rfl, rfl⟩, ?_, Nat.le_trans (Nat.le_of_eq (Nat.zero_mul _)) (Nat.zero_le _)⟩
    intro n hn
    cases hn
  · cases h
    obtain ⟨l, rfl, hl⟩ := rows_of (fun n : Int => [AV.int k n]) (fun n => (Lit.int k n).wf = true) rows fun r hr' => by
      have := hr r hr'
      unfold Sh at this
      exact this
    refine ⟨l, .inr ⟨t, ?_⟩, hl, by simpa using hB⟩
    rw [nums_flat, List.length_map]
theorem sh_ents {v : AV} (h : Sh (.sl 32 entryTy) [v]) : ∃ l, entsOk v l ∧ (∀ e ∈ l, e.name.length ≤ 140737488351232 ∧ (-9223372036854775808 ≤ e.node ∧ e.node < 9223372036854775808) ∧ 0 ≤ e.cookie ∧ e.cookie < 18446744073709551616) ∧ l.length * 32 ≤ 140737488351232 := by
  unfold Sh at h
  rcases h with h | ⟨rows, t, h, hr, hB, _⟩
  · cases h
    refine ⟨[], .inl ⟨rfl, rfl⟩, ?_, Nat.le_trans (Nat.le_of_eq (Nat.zero_mul _)) (Nat.zero_le _)⟩
    intro n hn
    cases hn
  · cases h
    obtain ⟨l, rfl, hl⟩ := rows_of entryA (fun e => e.name.length ≤ 140737488351232 ∧ (-9223372036854775808 ≤ e.node ∧ e.node < 9223372036854775808) ∧ 0 ≤ e.cookie ∧ e.cookie < 18446744073709551616) rows fun r hr' => by
      have := hr r hr'
      simp only [entryTy, Sh, ShL] at this
      obtain ⟨_, _, rfl, ⟨s, rfl, hs⟩, _, _, rfl, ⟨n, rfl, hn⟩, _, _, rfl, ⟨c, rfl, hc⟩, rfl⟩ := this
      exact ⟨⟨s, n, c⟩, rfl, hs, wf_i64 hn, wf_u64 hc⟩
    exact ⟨l, .inr ⟨t, by rw [List.length_map]; rfl⟩, hl, by simpa using hB⟩
theorem sh_node {r : List AV} (h : Sh (.seq nodeTyL) r) : ∃ x : NodeS, r = nodeA x ∧ x.ok ∧ x.rng := by
  unfold Sh nodeTyL timeTy at h
  simp only [ShL] at h
  obtain ⟨_, _, rfl, a0, _, _, rfl, a1, _, _, rfl, a2, _, _, rfl, a3, _, _, rfl, a4, _, _, rfl, a5, _, _, rfl, a6, _, _, rfl, a7, _, _, rfl, a8, _, _, rfl, a9, _, _, rfl, a10, _, _, rfl, a11, _, _, rfl, a12, _, _, rfl, a13, _, _, rfl, a14, rfl⟩ := h
  have row1 : ∀ {B : Nat} {e : Ty} {as_ : List AV}, Sh (.sl B e) as_ → ∃ v, as_ = [v] := by
    intro B e as_ h
    unfold Sh at h
    rcases h with rfl | ⟨_, _, rfl, _⟩ <;> exact ⟨_, rfl⟩
  obtain ⟨da, rfl⟩ := row1 a9
  obtain ⟨ls, rfl⟩ := row1 a12
  obtain ⟨by_, hb1, hb2, hb3⟩ := sh_row a9
  obtain ⟨es, he1, he2, he3⟩ := sh_ents a12
  simp only [Sh, ShL] at a0 a1 a2 a3 a4 a5 a6 a7 a8 a10 a11 a13 a14
  obtain ⟨kd, rfl, w0⟩ := a0
  obtain ⟨ge, rfl, w1⟩ := a1
  obtain ⟨mo, rfl, w2⟩ := a2
  obtain ⟨us, rfl, w3⟩ := a3
  obtain ⟨gr, rfl, w4⟩ := a4
  obtain ⟨li, rfl, w5⟩ := a5
  obtain ⟨_, _, rfl, ⟨rs, rfl, w6⟩, _, _, rfl, ⟨rn, rfl, w7⟩, rfl⟩ := a6
  obtain ⟨_, _, rfl, ⟨ws, rfl, w8⟩, _, _, rfl, ⟨wn, rfl, w9⟩, rfl⟩ := a7
  obtain ⟨_, _, rfl, ⟨ts, rfl, w10⟩, _, _, rfl, ⟨tn, rfl, w11⟩, rfl⟩ := a8
  obtain ⟨_, _, rfl, ⟨v0, rfl, x0⟩, _, _, rfl, ⟨v1, rfl, x1⟩, _, _, rfl, ⟨v2, rfl, x2⟩, _, _, rfl, ⟨v3, rfl, x3⟩, _, _, rfl, ⟨v4, rfl, x4⟩, _, _, rfl, ⟨v5, rfl, x5⟩, _, _, rfl, ⟨v6, rfl, x6⟩, _, _, rfl, ⟨v7, rfl, x7⟩, rfl⟩ := a10
  obtain ⟨ta, rfl, w12⟩ := a11
  obtain ⟨pa, rfl, w13⟩ := a13
  obtain ⟨nx, rfl, w14⟩ := a14
  refine ⟨⟨kd, ge, mo, us, gr, li, rs, rn, ws, wn, ts, tn, da, by_, fun i => match i with | 0 => v0 | 1 => v1 | 2 => v2 | 3 => v3 | 4 => v4 | 5 => v5 | 6 => v6 | _ => v7, ta, ls, es, pa, nx⟩, rfl, ⟨hb1, he1⟩, ?_⟩
  refine ⟨wf_u32 w0, wf_u32 w1, wf_u32 w2, wf_u32 w3, wf_u32 w4, wf_i64 w5, wf_u32 w6, wf_u32 w7, wf_u32 w8, wf_u32 w9, wf_u32 w10, wf_u32 w11, fun b hb => wf_u8 (hb2 b hb), by simpa using hb3, fun i hi => ?_, w12, he2, he3, wf_i64 w13, wf_u64 w14⟩
  obtain rfl | rfl | rfl | rfl | rfl | rfl | rfl | rfl : i = 0 ∨ i = 1 ∨ i = 2 ∨ i = 3 ∨ i = 4 ∨ i = 5 ∨ i = 6 ∨ i = 7 := by omega
  · exact wf_u8 x0
  · exact wf_u8 x1
  · exact wf_u8 x2
  · exact wf_u8 x3
  · exact wf_u8 x4
  · exact wf_u8 x5
  · exact wf_u8 x6
  · exact wf_u8 x7
theorem sh_nodes {B : Nat} {v : AV} (hB : 0 < B) (h : Sh (nodeTy B) [v]) : ∃ ns, nodesOk v ns ∧ (∀ x ∈ ns, x.ok ∧ x.rng) ∧ ns.length ≤ 140737488351232 := by
  unfold nodeTy Sh at h
  rcases h with h | ⟨rows, t, h, hr, hb, _⟩
  · cases h
    refine ⟨[], .inl ⟨rfl, rfl⟩, ?_, Nat.zero_le _⟩
    intro x hx
    cases hx
  · cases h
    obtain ⟨l, rfl, hl⟩ := rows_of nodeA (fun x => x.ok ∧ x.rng) rows fun r hr' => sh_node (hr r hr')
    refine ⟨l, .inr ⟨t, by rw [List.length_map]; rfl⟩, hl, ?_⟩
    rw [List.length_map] at hb
    exact Nat.le_trans (Nat.le_mul_of_pos_right _ hB) hb
def treeTyL (B : Nat) : List Ty := [nodeTy B, .int .u32]
theorem sh_tree {B : Nat} (hB : 0 < B) {r : List AV} (h : ShL (treeTyL B) r) : ∃ t : TreeS, r = [t.v, .int .u32 t.gen] ∧ t.ok := by
  unfold treeTyL at h
  simp only [ShL] at h
  obtain ⟨_, _, rfl, a0, _, _, rfl, a1, rfl⟩ := h
  obtain ⟨v, rfl⟩ : ∃ v, _ = [v] := by
    have := a0
    unfold nodeTy Sh at this
    rcases this with h | ⟨_, _, h, _⟩ <;> exact ⟨_, h⟩
  obtain ⟨ns, h1, h2, h3⟩ := sh_nodes hB a0
  unfold Sh at a1
  obtain ⟨g, rfl, hg⟩ := a1
  exact ⟨⟨v, ns, g⟩, rfl, h1, h2, h3, wf_u32 hg⟩
def credTyL : List Ty := [.int .u32, .int .u32, .sl 4 (.int .u32)]
theorem sh_cred {r : List AV} (h : ShL credTyL r) : ∃ c : CredS, r = [.int .u32 c.user, .int .u32 c.group, c.gs] ∧ c.ok ∧ (0 ≤ c.user ∧ c.user < 4294967296) ∧ (0 ≤ c.group ∧ c.group < 4294967296) ∧ c.l.length * 4 ≤ 140737488351232 ∧ ∀ n ∈ c.l, 0 ≤ n ∧ n < 4294967296 := by
  unfold credTyL at h
  simp only [ShL] at h
  obtain ⟨_, _, rfl, a0, _, _, rfl, a1, _, _, rfl, a2, rfl⟩ := h
  obtain ⟨v, rfl⟩ : ∃ v, _ = [v] := by
    have := a2
    unfold Sh at this
    rcases this with h | ⟨_, _, h, _⟩ <;> exact ⟨_, h⟩
  obtain ⟨l, h1, h2, h3⟩ := sh_row a2
  unfold Sh at a0 a1
  obtain ⟨u, rfl, hu⟩ := a0
  obtain ⟨g, rfl, hg⟩ := a1
  exact ⟨⟨u, g, v, l⟩, rfl, ⟨h1, by dsimp only; omega⟩, wf_u32 hu, wf_u32 hg, h3, fun n hn => wf_u32 (h2 n hn)⟩
end Go.Proofs.Ytnfkpnfafekflaa.Ab
/- Over the engine: may a tree be. -/
namespace Go.Proofs.Ytnfkpnfafekflaa.Ab
open Go Go.RowKit

/-- What is asked of a node, that nodes.Check may be walked. -/
structure NodeS.few (x : NodeS) : Prop where
  target : x.target.length ≤ 140737488351232
  ents : ∀ e ∈ x.ents, e.name.length ≤ 140737488351232
  entsL : x.ents.length * 32 ≤ 140737488351232
theorem NodeS.rng.few {x : NodeS} (h : x.rng) : x.few := ⟨h.target, fun e he => (h.ents e he).1, h.entsL⟩
set_option maxRecDepth 100000
theorem timesC_c (m : Nat) (from_ : FuncId) (h : H) (s n : Int) : evCall TE (m + 1) from_ (.fn 20 [] []) [.agg [.int .u32 s, .int .u32 n]] h = some (.ret (.bool (decide (n < 1000000000))), h) := by
  refine call_clean (fn := Try.f20) rfl Try.func20 rfl rfl rfl rfl rfl (Nat.le_of_ble_eq_true rfl) ?_
  conv => whnf
/-- Numbers that were counted once each. -/
def gensA (g : List Int) : List (AV × AV) := g.map fun n => (.int .u32 n, .int .i64 1)
def isGen (g : List Int) (n : Int) : Bool := g.any fun k => n == k
theorem gen_none : ∀ (g : List Int) (n : Int) (i : Nat), isGen g n = false → findA (.int .u32 n) (gensA g) i = some none
  | [], _, _, _ => rfl
  | k :: r, n, i, h => by
    unfold isGen at h
    rw [List.any_cons, Bool.or_eq_false_iff] at h
    show (match sameCell (.int .u32 n) (.int .u32 k) with | some true => _ | some false => _ | none => _) = _
    simp only [sameCell, h.1, if_true]
    exact gen_none r n (i + 1) h.2
theorem gen_some : ∀ (g : List Int) (n : Int) (i : Nat), isGen g n = true → ∃ k, findA (.int .u32 n) (gensA g) i = some (some (i + k, .int .i64 1)) ∧ ∀ w, findA (.int .u32 n) ((gensA g).modify k fun e => (e.1, w)) i = some (some (i + k, w))
  | [], _, _, h => by simp [isGen] at h
  | a :: r, n, i, h => by
    unfold isGen at h
    rw [List.any_cons] at h
    cases hb : n == a with
    | true =>
      refine ⟨0, ?_, fun w => ?_⟩
      · show (match sameCell (.int .u32 n) (.int .u32 a) with | some true => _ | some false => _ | none => _) = _
        simp only [sameCell, hb, if_true]
        rfl
      · show (match sameCell (.int .u32 n) (.int .u32 a) with | some true => _ | some false => _ | none => _) = _
        simp only [sameCell, hb, if_true]
        rfl
    | false =>
      rw [hb, Bool.false_or] at h
      obtain ⟨k, h1, h2⟩ := gen_some r n (i + 1) h
      refine ⟨k + 1, ?_, fun w => ?_⟩
      · show (match sameCell (.int .u32 n) (.int .u32 a) with | some true => _ | some false => _ | none => _) = _
        simp only [sameCell, hb, if_true]
        rw [show i + (k + 1) = i + 1 + k by omega]
        exact h1
      · show (match sameCell (.int .u32 n) (.int .u32 a) with | some true => _ | some false => _ | none => _) = _
        simp only [sameCell, hb, if_true]
        rw [show i + (k + 1) = i + 1 + k by omega]
        exact h2 w
theorem gen_last : ∀ (g : List Int) (n : Int) (i : Nat) (w : AV), isGen g n = false → findA (.int .u32 n) (gensA g ++ [(.int .u32 n, w)]) i = some (some (i + g.length, w))
  | [], n, i, w, _ => by
    show (match sameCell (.int .u32 n) (.int .u32 n) with | some true => _ | some false => _ | none => _) = _
    simp only [sameCell, beq_self_eq_true, if_true]
    rfl
  | a :: r, n, i, w, h => by
    unfold isGen at h
    rw [List.any_cons, Bool.or_eq_false_iff] at h
    show (match sameCell (.int .u32 n) (.int .u32 a) with | some true => _ | some false => _ | none => _) = _
    simp only [sameCell, h.1, if_true]
    rw [List.length_cons, show i + (r.length + 1) = i + 1 + r.length by omega]
    exact gen_last r n (i + 1) w h.2
theorem gens_top : ∀ g : List Int, topL ((gensA g).map (·.1)) = 0 ∧ topL ((gensA g).map (·.2)) = 0
  | [] => ⟨rfl, rfl⟩
  | e :: r => by
    obtain ⟨h1, h2⟩ := gens_top r
    constructor
    · show max 0 (topL ((gensA r).map (·.1))) = 0
      rw [h1]
      rfl
    · show max 0 (topL ((gensA r).map (·.2))) = 0
      rw [h2]
      rfl
theorem gmod_top (g : List Int) : ∀ k : Nat, (AB.map ((gensA g).modify k fun e => (e.1, .int .i64 2))).top = 0 := by
  intro k
  refine map_top ?_ ?_
  · induction g generalizing k with
    | nil => cases k <;> rfl
    | cons e r ih =>
      cases k with
      | zero =>
        show max 0 (topL ((gensA r).map (·.1))) = 0
        rw [(gens_top r).1]
        rfl
      | succ k =>
        show max 0 (topL (((gensA r).modify k fun e => (e.1, .int .i64 2)).map (·.1))) = 0
        rw [ih k]
        rfl
  · induction g generalizing k with
    | nil => cases k <;> rfl
    | cons e r ih =>
      cases k with
      | zero =>
        show max 0 (topL ((gensA r).map (·.2))) = 0
        rw [(gens_top r).2]
        rfl
      | succ k =>
        show max 0 (topL (((gensA r).modify k fun e => (e.1, .int .i64 2)).map (·.2))) = 0
        rw [ih k]
        rfl
/-- What is counted: how often each node is named, of how many directories, and where. -/
structure Cnt where
  named : List Int
  subs : List Int
  home : List Int
def bump (l : List Int) (k : Int) : List Int := l.set k.toNat (IntKind.wrap .i64 ((l[k.toNat]?).getD 0 + 1))
def stepE (ns : List NodeS) (i : Int) (c : Cnt) (e : EntryS) : Cnt := ⟨bump c.named e.node, if dirS ns e.node = true then bump c.subs i else c.subs, c.home.set e.node.toNat i⟩
def cntE (ns : List NodeS) (i : Int) : Cnt → List EntryS → Cnt
  | c, [] => c
  | c, e :: r => cntE ns i (stepE ns i c e) r
def Cnt.len (c : Cnt) (n : Nat) : Prop := c.named.length = n ∧ c.subs.length = n ∧ c.home.length = n
theorem bump_len (l : List Int) (k : Int) : (bump l k).length = l.length := by unfold bump; rw [List.length_set]
theorem stepE_len {ns : List NodeS} {i : Int} {c : Cnt} {e : EntryS} {n : Nat} (h : c.len n) : (stepE ns i c e).len n := by
  refine ⟨?_, ?_, ?_⟩
  · show (bump c.named e.node).length = n
    rw [bump_len]; exact h.1
  · show (if dirS ns e.node = true then bump c.subs i else c.subs).length = n
    split
    · rw [bump_len]; exact h.2.1
    · exact h.2.1
  · show (c.home.set e.node.toNat i).length = n
    rw [List.length_set]; exact h.2.2
theorem cntE_len {ns : List NodeS} {i : Int} {n : Nat} : ∀ (l : List EntryS) (c : Cnt), c.len n → (cntE ns i c l).len n
  | [], _, h => h
  | e :: r, c, h => cntE_len r _ (stepE_len h)
theorem cntE_drop {ns : List NodeS} {i : Int} {l : List EntryS} {j : Nat} {e : EntryS} {c : Cnt} (h : l[j]? = some e) : cntE ns i c (l.drop j) = cntE ns i (stepE ns i c e) (l.drop (j + 1)) := by
  obtain ⟨h1, rfl⟩ := List.getElem?_eq_some_iff.1 h
  rw [List.drop_eq_getElem_cons h1, cntE]
/-- What is bad about a node, ahead of what is counted. -/
def nodeBad (ns : List NodeS) (tg : Int) (g : List Int) (x : NodeS) : Bool :=
  decide (x.gen ≥ tg) || (isGen g x.gen || (decide (x.mode > 4095) || (!decide (x.rn < 1000000000) || (!decide (x.wn < 1000000000) || (!decide (x.tn < 1000000000) || (x.kind == 2 && !entriesS ns x))))))
def pass1 (ns : List NodeS) (tg : Int) : List NodeS → Int → List Int → Cnt → Option Cnt
  | [], _, _, c => some c
  | x :: r, i, g, c => if (x.kind != 0) = true then if nodeBad ns tg g x = true then none else pass1 ns tg r (i + 1) (g ++ [x.gen]) (cntE ns i c x.ents) else pass1 ns tg r (i + 1) g c
def at0 (l : List Int) (i : Int) : Int := (l[i.toNat]?).getD 0
def nodeBad2 (ns : List NodeS) (c : Cnt) (i : Int) (x : NodeS) : Bool :=
  if (x.kind == 2) = true then x.links != IntKind.wrap .i64 (2 + at0 c.subs i) || (decide (i > 1) && (at0 c.named i != 1 || (at0 c.home i != x.parent || !withinS ns 1 (ns.length + 1) i)))
  else x.links != at0 c.named i || (decide (at0 c.named i < 1) || decide (at0 c.named i > 200))
def pass2 (ns : List NodeS) (c : Cnt) : List NodeS → Int → Bool
  | [], _ => true
  | x :: r, i => if (x.kind != 0) = true then if nodeBad2 ns c i x = true then false else pass2 ns c r (i + 1) else pass2 ns c r (i + 1)
def cnt0 (n : Nat) : Cnt := ⟨List.replicate n 0, List.replicate n 0, List.replicate n 0⟩
def preBad (ns : List NodeS) : Bool := decide ((ns.length : Int) < 2) || (decide ((ns.length : Int) > 1025) || ((kindS ns 0 != 0) || (!dirS ns 1 || ((parentS ns 1 != 1) || !thereS ns (ns.length - 1)))))
/-- May a tree be? -/
def checkS (ns : List NodeS) (tg : Int) : Bool := !preBad ns && (!anyBad ns && (match pass1 ns tg ns 0 [] (cnt0 ns.length) with
  | some c => pass2 ns c ns 0
  | none => false))
theorem pass1_drop {ns : List NodeS} {tg : Int} {l : List NodeS} {i : Int} {x : NodeS} {g : List Int} {c : Cnt} (h0 : 0 ≤ i) (h : l[i.toNat]? = some x) : pass1 ns tg (l.drop i.toNat) i g c = if (x.kind != 0) = true then if nodeBad ns tg g x = true then none else pass1 ns tg (l.drop (i + 1).toNat) (i + 1) (g ++ [x.gen]) (cntE ns i c x.ents) else pass1 ns tg (l.drop (i + 1).toNat) (i + 1) g c := by
  obtain ⟨h1, rfl⟩ := List.getElem?_eq_some_iff.1 h
  rw [List.drop_eq_getElem_cons h1, pass1, show (i + 1).toNat = i.toNat + 1 by omega]
theorem pass2_drop {ns : List NodeS} {l : List NodeS} {i : Int} {x : NodeS} {c : Cnt} (h0 : 0 ≤ i) (h : l[i.toNat]? = some x) : pass2 ns c (l.drop i.toNat) i = if (x.kind != 0) = true then if nodeBad2 ns c i x = true then false else pass2 ns c (l.drop (i + 1).toNat) (i + 1) else pass2 ns c (l.drop (i + 1).toNat) (i + 1) := by
  obtain ⟨h1, rfl⟩ := List.getElem?_eq_some_iff.1 h
  rw [List.drop_eq_getElem_cons h1, pass2, show (i + 1).toNat = i.toNat + 1 by omega]
theorem only_list {x : NodeS} (h : onlyS x = true) (hk : (x.kind == 2) = false) : x.ents = [] := by
  have hl : listO x = true := by
    unfold onlyS at h
    cases h0 : (x.kind == 0) <;> cases h1 : (x.kind == 1) <;> cases h5 : (x.kind == 5) <;> simp_all
  unfold listO at hl
  rw [Bool.and_eq_true] at hl
  have := hl.1
  rw [beq_iff_eq] at this
  exact List.length_eq_zero_iff.1 (by omega)
theorem ents_there {ns : List NodeS} {nx : Int} : ∀ (l prev : List EntryS) (la : Int), entsBad ns nx prev la l = false → ∀ e ∈ l, thereS ns e.node = true
  | [], _, _, _, e, he => by cases he
  | a :: r, prev, la, h, e, he => by
    rw [entsBad, Bool.or_eq_false_iff] at h
    rcases List.mem_cons.1 he with rfl | he
    · have h1 := h.1
      unfold entBad at h1
      simp only [Bool.or_eq_false_iff, Bool.not_eq_false'] at h1
      exact h1.2.2.2.2.2.2.2
    · exact ents_there r _ _ h.2 e he
theorem entries_there {ns : List NodeS} {d : NodeS} (h : entriesS ns d = true) : ∀ e ∈ d.ents, thereS ns e.node = true := by
  unfold entriesS at h
  rw [Bool.and_eq_true, Bool.not_eq_true'] at h
  exact ents_there d.ents [] 2 (by simpa using h.2)
theorem gensA_app (g : List Int) (n : Int) : gensA (g ++ [n]) = gensA g ++ [(.int .u32 n, .int .i64 1)] := by simp [gensA]
theorem ints_put {l : List Int} {k : Nat} {v : Int} (h : k < l.length) : splice (numsA .i64 l) (0 + k * 1) [.int .i64 v] = numsA .i64 (l.set k v) := by
  have := splice_rows (f := fun n : Int => [AV.int .i64 n]) (z := 1) (fun _ => rfl) (l := l) (i := k) (x := l[k]) (x' := v) (k := 0) (vs := [.int .i64 v]) (List.getElem?_eq_getElem h) (Nat.le_refl 1) rfl
  rw [nums_flat, nums_flat, Nat.add_zero] at this
  rw [Nat.zero_add]
  exact this
theorem ints_get {l : List Int} {k : Nat} (h : k < l.length) : (numsA .i64 l)[0 + k * 1]? = some (.int .i64 ((l[k]?).getD 0)) := by
  rw [Nat.zero_add, Nat.mul_one, numsA, List.getElem?_map, List.getElem?_eq_getElem h]
  rfl
theorem nodeA_one {x : NodeS} (hx : x.ok) : oneL (nodeA x) = true := by
  obtain ⟨kd, ge, mo, us, ng, li, xrs, xrn, xws, xwn, ts, tn, da, by_, vf, ta, ls, es, pa, nx⟩ := x
  simp only [NodeS.ok, rowOk, entsOk] at hx
  obtain ⟨hd, hl⟩ := hx
  rcases hd with ⟨rfl, rfl⟩ | ⟨dt, rfl⟩ <;> rcases hl with ⟨rfl, rfl⟩ | ⟨lt, rfl⟩ <;> rfl
theorem nodeA_top0 {x : NodeS} (hx : x.ok) : topL (nodeA x) = 0 := by
  obtain ⟨kd, ge, mo, us, ng, li, xrs, xrn, xws, xwn, ts, tn, da, by_, vf, ta, ls, es, pa, nx⟩ := x
  simp only [NodeS.ok, rowOk, entsOk] at hx
  obtain ⟨hd, hl⟩ := hx
  rcases hd with ⟨rfl, rfl⟩ | ⟨dt, rfl⟩ <;> rcases hl with ⟨rfl, rfl⟩ | ⟨lt, rfl⟩ <;> rfl
theorem ints_len (l : List Int) : (numsA .i64 l).length = l.length := by simp [numsA]
theorem rep_ints (n : Nat) : repCells n [.int .i64 0] = numsA .i64 (List.replicate n 0) := by
  unfold numsA
  rw [List.map_replicate]
  rfl
end Go.Proofs.Ytnfkpnfafekflaa.Ab
/- Over the engine: what a tree that may be has, in plain words. -/
namespace Go.Proofs.Ytnfkpnfafekflaa.Ab
open Go Go.RowKit

theorem anyBad_of {ns : List NodeS} {x : NodeS} (hx : x ∈ ns) (h : onlyS x = false) : anyBad ns = true := by
  unfold anyBad
  exact List.any_eq_true.2 ⟨x, hx, by rw [h]; rfl⟩
theorem checkS_any {ns : List NodeS} {tg : Int} (h : anyBad ns = true) : checkS ns tg = false := by
  unfold checkS
  rw [h]
  simp
theorem checkS_pass1 {ns : List NodeS} {tg : Int} (h : pass1 ns tg ns 0 [] (cnt0 ns.length) = none) : checkS ns tg = false := by
  unfold checkS
  rw [h]
  simp
theorem checkS_pass2 {ns : List NodeS} {tg : Int} {c : Cnt} (h : pass1 ns tg ns 0 [] (cnt0 ns.length) = some c) (h2 : pass2 ns c ns 0 = false) : checkS ns tg = false := by
  unfold checkS
  rw [h]
  simp [h2]
theorem checkS_has {ns : List NodeS} {tg : Int} (h : checkS ns tg = true) : preBad ns = false ∧ anyBad ns = false ∧ ∃ c, pass1 ns tg ns 0 [] (cnt0 ns.length) = some c ∧ pass2 ns c ns 0 = true := by
  unfold checkS at h
  rw [Bool.and_eq_true, Bool.and_eq_true, Bool.not_eq_true', Bool.not_eq_true'] at h
  refine ⟨h.1, h.2.1, ?_⟩
  cases hp : pass1 ns tg ns 0 [] (cnt0 ns.length) with
  | none => rw [hp] at h; simp at h
  | some c =>
    rw [hp] at h
    exact ⟨c, rfl, h.2.2⟩
/-- A node that is bad whatever was counted. -/
theorem pass1_bad {ns : List NodeS} {tg : Int} : ∀ (l : List NodeS) (i : Int) (g : List Int) (c : Cnt), (∃ x, x ∈ l ∧ (x.kind != 0) = true ∧ ∀ g, nodeBad ns tg g x = true) → pass1 ns tg l i g c = none
  | [], _, _, _, ⟨x, hx, _⟩ => by cases hx
  | y :: r, i, g, c, ⟨x, hx, hk, hb⟩ => by
    rw [pass1]
    rcases List.mem_cons.1 hx with rfl | hx
    · rw [if_pos hk, if_pos (hb g)]
    · split
      · split
        · rfl
        · exact pass1_bad r _ _ _ ⟨x, hx, hk, hb⟩
      · exact pass1_bad r _ _ _ ⟨x, hx, hk, hb⟩
theorem isGen_app {g : List Int} {n k : Int} (h : isGen g n = true) : isGen (g ++ [k]) n = true := by
  unfold isGen at *
  rw [List.any_append, h, Bool.true_or]
theorem nodeBad_gen {ns : List NodeS} {tg : Int} {g : List Int} {x : NodeS} (h : isGen g x.gen = true) : nodeBad ns tg g x = true := by
  unfold nodeBad
  rw [h, Bool.true_or, Bool.or_true]
/-- A node whose Gen was seen. -/
theorem pass1_gen {ns : List NodeS} {tg : Int} : ∀ (l : List NodeS) (i : Int) (g : List Int) (c : Cnt), (∃ x, x ∈ l ∧ (x.kind != 0) = true ∧ isGen g x.gen = true) → pass1 ns tg l i g c = none
  | [], _, _, _, ⟨x, hx, _⟩ => by cases hx
  | y :: r, i, g, c, ⟨x, hx, hk, hb⟩ => by
    rw [pass1]
    rcases List.mem_cons.1 hx with rfl | hx
    · rw [if_pos hk, if_pos (nodeBad_gen hb)]
    · split
      · split
        · rfl
        · exact pass1_gen r _ _ _ ⟨x, hx, hk, isGen_app hb⟩
      · exact pass1_gen r _ _ _ ⟨x, hx, hk, hb⟩
/-- Two nodes of one Gen. -/
theorem pass1_dup {ns : List NodeS} {tg : Int} : ∀ (l : List NodeS) (i : Int) (g : List Int) (c : Cnt) (a b : List NodeS) (y x : NodeS), l = a ++ y :: b → x ∈ b → (y.kind != 0) = true → (x.kind != 0) = true → x.gen = y.gen → pass1 ns tg l i g c = none
  | _, i, g, c, [], b, y, x, rfl, hx, hy, hk, he => by
    rw [List.nil_append, pass1, if_pos hy]
    split
    · rfl
    · exact pass1_gen b _ _ _ ⟨x, hx, hk, by unfold isGen; rw [List.any_append, he]; simp⟩
  | _, i, g, c, z :: a, b, y, x, rfl, hx, hy, hk, he => by
    rw [List.cons_append, pass1]
    split
    · split
      · rfl
      · exact pass1_dup _ _ _ _ a b y x rfl hx hy hk he
    · exact pass1_dup _ _ _ _ a b y x rfl hx hy hk he
/-- A node that is bad by what was counted. -/
theorem pass2_bad {ns : List NodeS} {c : Cnt} : ∀ (l : List NodeS) (i : Int) (k : Nat) (x : NodeS), l[k]? = some x → (x.kind != 0) = true → nodeBad2 ns c (i + k) x = true → pass2 ns c l i = false
  | [], _, k, x, h, _, _ => by simp at h
  | y :: r, i, 0, x, h, hk, hb => by
    simp at h
    subst h
    rw [pass2, if_pos hk, if_pos (by simpa using hb)]
  | y :: r, i, k + 1, x, h, hk, hb => by
    have ih := pass2_bad r (i + 1) k x (by simpa using h) hk (by rw [show i + 1 + (k : Int) = i + ((k + 1 : Nat) : Int) by omega]; exact hb)
    rw [pass2]
    split
    · split
      · rfl
      · exact ih
    · exact ih
theorem pass2_good {ns : List NodeS} {c : Cnt} : ∀ (l : List NodeS) (i : Int) (k : Nat) (x : NodeS), pass2 ns c l i = true → l[k]? = some x → (x.kind != 0) = true → nodeBad2 ns c (i + k) x = false := by
  intro l i k x h hx hk
  cases hb : nodeBad2 ns c (i + k) x with
  | false => rfl
  | true => rw [pass2_bad l i k x hx hk hb] at h; cases h
/-- Whoever is its own parent is in no other directory. -/
theorem within_self {ns : List NodeS} {top d : Int} (hp : parentS ns d = d) (ht : (d == top) = false) : ∀ k, withinS ns top k d = false
  | 0 => rfl
  | k + 1 => by
    rw [withinS, ht]
    split
    · rw [if_neg (fun h => Bool.noConfusion h)]
      split
      · rfl
      · rw [hp]
        exact within_self hp ht k
    · rfl
end Go.Proofs.Ytnfkpnfafekflaa.Ab
/- Over the engine: a node that is turned, but for its kind. -/
namespace Go.Proofs.Ytnfkpnfafekflaa.Ab
open Go Go.RowKit

section
variable {ns : List NodeS} {n : Nat} {x x' : NodeS} (hx : ns[n]? = some x) (hk : x'.kind = x.kind)
include hx hk
theorem kindS_set (d : Int) : kindS (ns.set n x') d = kindS ns d := by
  obtain ⟨h1, _⟩ := List.getElem?_eq_some_iff.1 hx
  unfold kindS
  by_cases hd : n = d.toNat
  · subst hd
    rw [List.getElem?_set_self h1, hx]
    exact hk
  · rw [List.getElem?_set_ne hd]
theorem thereS_set (d : Int) : thereS (ns.set n x') d = thereS ns d := by
  unfold thereS
  rw [kindS_set hx hk, List.length_set]
theorem dirS_set (d : Int) : dirS (ns.set n x') d = dirS ns d := by
  unfold dirS
  rw [thereS_set hx hk, kindS_set hx hk]
theorem entBad_set (next : Int) (prev : List EntryS) (la : Int) (e : EntryS) : entBad (ns.set n x') next prev la e = entBad ns next prev la e := by
  unfold entBad
  rw [thereS_set hx hk]
theorem entsBad_set (next : Int) : ∀ (l prev : List EntryS) (la : Int), entsBad (ns.set n x') next prev la l = entsBad ns next prev la l
  | [], _, _ => rfl
  | e :: r, prev, la => by rw [entsBad, entsBad, entBad_set hx hk, entsBad_set next r]
theorem entriesS_set (d : NodeS) : entriesS (ns.set n x') d = entriesS ns d := by
  unfold entriesS
  rw [entsBad_set hx hk]
theorem stepE_set (i : Int) (c : Cnt) (e : EntryS) : stepE (ns.set n x') i c e = stepE ns i c e := by
  unfold stepE
  rw [dirS_set hx hk]
theorem cntE_set (i : Int) : ∀ (l : List EntryS) (c : Cnt), cntE (ns.set n x') i c l = cntE ns i c l
  | [], _ => rfl
  | e :: r, c => by rw [cntE, cntE, stepE_set hx hk, cntE_set i r]
theorem nodeBad_set (tg : Int) (g : List Int) (y : NodeS) : nodeBad (ns.set n x') tg g y = nodeBad ns tg g y := by
  unfold nodeBad
  rw [entriesS_set hx hk]
end
/-- Nodes that the first pass takes for the same. -/
structure LikeP (x y : NodeS) : Prop where
  kind : x.kind = y.kind
  gen : x.gen = y.gen
  mode : x.mode = y.mode
  rn : x.rn = y.rn
  wn : x.wn = y.wn
  tn : x.tn = y.tn
  ents : x.ents = y.ents
  next : x.next = y.next
theorem entriesS_like {ns : List NodeS} {x y : NodeS} (h : LikeP x y) : entriesS ns x = entriesS ns y := by
  unfold entriesS
  rw [h.ents, h.next]
theorem nodeBad_like {ns : List NodeS} {tg : Int} {g : List Int} {x y : NodeS} (h : LikeP x y) : nodeBad ns tg g x = nodeBad ns tg g y := by
  unfold nodeBad
  rw [h.gen, h.mode, h.rn, h.wn, h.tn, h.kind, entriesS_like h]
theorem pass1_like {ns : List NodeS} {tg : Int} : ∀ (l : List NodeS) (k : Nat) (i : Int) (g : List Int) (c : Cnt) (x x' : NodeS), l[k]? = some x → LikeP x' x → pass1 ns tg (l.set k x') i g c = pass1 ns tg l i g c
  | [], k, _, _, _, x, _, h, _ => by simp at h
  | y :: r, 0, i, g, c, x, x', h, hl => by
    simp at h
    subst h
    rw [List.set_cons_zero, pass1, pass1, hl.kind, hl.gen, hl.ents, nodeBad_like hl]
  | y :: r, k + 1, i, g, c, x, x', h, hl => by
    rw [List.set_cons_succ, pass1, pass1]
    rw [pass1_like r k _ _ _ x x' (by simpa using h) hl, pass1_like r k _ _ _ x x' (by simpa using h) hl]
theorem pass1_ns {ns : List NodeS} {n : Nat} {x x' : NodeS} {tg : Int} (hx : ns[n]? = some x) (hk : x'.kind = x.kind) : ∀ (l : List NodeS) (i : Int) (g : List Int) (c : Cnt), pass1 (ns.set n x') tg l i g c = pass1 ns tg l i g c
  | [], _, _, _ => rfl
  | y :: r, i, g, c => by
    rw [pass1, pass1, nodeBad_set hx hk, cntE_set hx hk, pass1_ns hx hk r, pass1_ns hx hk r]
theorem pass1_set {ns : List NodeS} {n : Nat} {x x' : NodeS} {tg : Int} (hx : ns[n]? = some x) (hl : LikeP x' x) (i : Int) (g : List Int) (c : Cnt) : pass1 (ns.set n x') tg (ns.set n x') i g c = pass1 ns tg ns i g c := by
  rw [pass1_ns hx hl.kind, pass1_like ns n i g c x x' hx hl]
end Go.Proofs.Ytnfkpnfafekflaa.Ab
/- Over the engine: rows that are cloned and clipped. -/
namespace Go.Proofs.Ytnfkpnfafekflaa.Ab
open Go Go.RowKit

set_option maxRecDepth 100000
/-- A row in memory of its own. -/
def rowC (c : List AV) (n : Nat) (v : AV) : AV := match v with
  | .sl0 => .sl0
  | _ => .sl c n true
theorem numsA_len (k : IntKind) (l : List Int) : (numsA k l).length = l.length * 1 := by simp [numsA]

theorem bytesClone_c (m : Nat) (from_ : FuncId) (h : H) (a : Int) (l : List Int) (t : Bool) (hl : (a :: l).length * 1 ≤ 140737488351232) : evCall TE (m + 1) from_ (.fn 34 [] []) [.sl (numsA .u8 (a :: l)) (a :: l).length t] h = some (.ret (.sl (numsA .u8 (a :: l)) (a :: l).length false), h) := by
  obtain ⟨n, hn⟩ : ∃ n, n = (a :: l).length := ⟨_, rfl⟩
  have hn0 : 0 < n := by rw [hn]; exact Nat.succ_pos _
  have hc : (numsA .u8 (a :: l)).length = n * 1 := by rw [numsA_len, hn]
  rw [← hn] at hl ⊢
  clear hn
  generalize numsA .u8 (a :: l) = c at hc ⊢
  refine call_cleanE (fn := Try.f34) rfl Try.func34 rfl rfl rfl rfl rfl (Nat.le_of_ble_eq_true rfl) ?_
  intro End hE
  conv => whnf
  (refine     runK_append_new (sz := 1) (by_ := 1) rfl rfl rfl rfl rfl rfl rfl rfl rfl hn0 hc (by omega) (by omega) (by decide)       rfl ?_)
  conv => whnf
  (refine     hE _ _ [_] _ _ (.inr rfl) rfl       (leaveA_of (seal_rsl rfl rfl rfl rfl (by show 0 + n * 1 ≤ c.length; omega) (by decide)) rfl rfl) ?_)
  conv => whnf
  (show AV.sl ((c.drop 0).take (n * 1)) n false = _; rw [List.drop_zero, ← hc, List.take_length])
theorem bytesClone_0 (m : Nat) (from_ : FuncId) (h : H) (t : Bool) : evCall TE (m + 1) from_ (.fn 34 [] []) [.sl [] 0 t] h = some (.ret (.sl [] 0 true), h) := by
  refine call_clean (fn := Try.f34) rfl Try.func34 rfl rfl rfl rfl rfl (Nat.le_of_ble_eq_true rfl) ?_
  conv => whnf
  rfl
theorem bytesClone_nil (m : Nat) (from_ : FuncId) (h : H) : evCall TE (m + 1) from_ (.fn 34 [] []) [.sl0] h = some (.ret .sl0, h) := by
  refine call_clean (fn := Try.f34) rfl Try.func34 rfl rfl rfl rfl rfl (Nat.le_of_ble_eq_true rfl) ?_
  conv => whnf
theorem bytes_three {v : AV} {l : List Int} (hv : rowOk .u8 v l) : (v = .sl0 ∧ l = []) ∨ (∃ t, v = .sl [] 0 t ∧ l = []) ∨ ∃ a r t, v = .sl (numsA .u8 (a :: r)) (a :: r).length t ∧ l = a :: r := by
  rcases hv with h | ⟨t, rfl⟩
  · exact .inl h
  · cases l with
    | nil => exact .inr (.inl ⟨t, rfl, rfl⟩)
    | cons a r => exact .inr (.inr ⟨a, r, t, rfl, rfl⟩)
theorem bytesC_ok {v : AV} {l : List Int} (hv : rowOk .u8 v l) : rowOk .u8 (rowC (numsA .u8 l) l.length v) l := by
  rcases hv with ⟨rfl, rfl⟩ | ⟨t, rfl⟩
  · exact .inl ⟨rfl, rfl⟩
  · exact .inr ⟨true, rfl⟩

theorem ents_three {v : AV} {l : List EntryS} (hv : entsOk v l) : (v = .sl0 ∧ l = []) ∨ (∃ t, v = .sl [] 0 t ∧ l = []) ∨ ∃ a r t, v = .sl (entriesA (a :: r)) (a :: r).length t ∧ l = a :: r := by
  rcases hv with h | ⟨t, rfl⟩
  · exact .inl h
  · cases l with
    | nil => exact .inr (.inl ⟨t, rfl, rfl⟩)
    | cons a r => exact .inr (.inr ⟨a, r, t, rfl, rfl⟩)
theorem entsC_ok {v : AV} {l : List EntryS} (hv : entsOk v l) : entsOk (rowC (entriesA l) l.length v) l := by
  rcases hv with ⟨rfl, rfl⟩ | ⟨t, rfl⟩
  · exact .inl ⟨rfl, rfl⟩
  · exact .inr ⟨true, rfl⟩
end Go.Proofs.Ytnfkpnfafekflaa.Ab
/- Over the engine: a tree that is cloned. -/
namespace Go.Proofs.Ytnfkpnfafekflaa.Ab
open Go Go.RowKit

set_option maxRecDepth 100000
def node0 : NodeS := ⟨0, 0, 0, 0, 0, 0, 0, 0, 0, 0, 0, 0, .sl0, [], fun _ => 0, [], .sl0, [], 0, 0⟩
theorem rep_nodes (n : Nat) : repCells n (nodeA node0) = nodesA (List.replicate n node0) := by
  unfold nodesA
  rw [List.map_replicate]
  rfl
theorem nodes_rep_len (n : Nat) : (nodesA (List.replicate n node0)).length = n * 25 := by rw [nodesA_len, List.length_replicate]
/-- What is known of a node, wherever it comes from. -/
def NodeS.fit (x : NodeS) : Prop := x.ok ∧ x.bytes.length ≤ 140737488351232 ∧ x.ents.length * 32 ≤ 140737488351232
/-- A node in memory of its own. -/
def cloneN (x : NodeS) : NodeS := { x with data := rowC (numsA .u8 x.bytes) x.bytes.length x.data, list := rowC (entriesA x.ents) x.ents.length x.list }
theorem topL_app : ∀ (a b : List AV), topL (a ++ b) = max (topL a) (topL b)
  | [], b => by simp [topL]
  | x :: a, b => by simp only [List.cons_append, topL, topL_app a b, Nat.max_assoc]
theorem nodeA_top {x : NodeS} (hx : x.ok) : topL (nodeA x) = 0 := by
  obtain ⟨kd, ge, mo, us, ng, li, xrs, xrn, xws, xwn, ts, tn, da, by_, vf, ta, ls, es, pa, nx⟩ := x
  simp only [NodeS.ok, rowOk, entsOk] at hx
  obtain ⟨hd, hl⟩ := hx
  rcases hd with ⟨rfl, rfl⟩ | ⟨dt, rfl⟩ <;> rcases hl with ⟨rfl, rfl⟩ | ⟨lt, rfl⟩ <;> rfl
theorem nodesA_top : ∀ {ns : List NodeS}, (∀ x ∈ ns, x.ok) → topL (nodesA ns) = 0
  | [], _ => rfl
  | x :: ns, h => by
    show topL (nodeA x ++ nodesA ns) = 0
    rw [topL_app, nodeA_top (h x (List.mem_cons_self ..)), nodesA_top fun y hy => h y (List.mem_cons_of_mem _ hy)]
    rfl
/-- So many are cloned. -/
def midN (ns : List NodeS) (i : Nat) : List NodeS := (ns.take i).map cloneN ++ ns.drop i
theorem midN_zero (ns : List NodeS) : midN ns 0 = ns := by simp [midN]
theorem midN_all (ns : List NodeS) {i : Nat} (h : ns.length ≤ i) : midN ns i = ns.map cloneN := by simp [midN, List.take_of_length_le h, List.drop_eq_nil_of_le h]
theorem midN_len (ns : List NodeS) (i : Nat) : (midN ns i).length = ns.length := by simp [midN]; omega
theorem midN_get {ns : List NodeS} {i : Nat} {x : NodeS} (h : ns[i]? = some x) : (midN ns i)[i]? = some x := by
  obtain ⟨h1, rfl⟩ := List.getElem?_eq_some_iff.1 h
  unfold midN
  rw [List.getElem?_append_right (by simp; omega)]
  simp [Nat.min_eq_left (Nat.le_of_lt h1)]
theorem midN_set {ns : List NodeS} {i : Nat} {x : NodeS} (h : ns[i]? = some x) : (midN ns i).set i (cloneN x) = midN ns (i + 1) := by
  obtain ⟨h1, rfl⟩ := List.getElem?_eq_some_iff.1 h
  unfold midN
  rw [List.set_append_right _ _ (by simp; omega)]
  simp only [List.length_map, List.length_take, Nat.min_eq_left (Nat.le_of_lt h1), Nat.sub_self]
  rw [List.drop_eq_getElem_cons h1, List.set_cons_zero, List.take_succ_eq_append_getElem h1, List.map_append, List.append_assoc]
  rfl
def cloneS (B : List AB) (ns : List NodeS) (t : Bool) (gen : Int) (a : Int × List NodeS) : ST :=
  ⟨RG.of 44 [(15, .int .i64 a.1), (14, .int .i64 ns.length), (3, .rsl 21 0 ns.length (some ns.length) 0), (2, .ref 20 0 0), (1, .ref 19 0 0)], ⟨B ++ [.cells [.sl (nodesA ns) ns.length t, .int .u32 gen] ⟨false, 0, false, true⟩, .cells [.sl0, .int .u32 0] ⟨false, 0, false, true⟩, .cells (nodesA a.2) ⟨false, 25, false, true⟩], []⟩⟩
theorem nodes_cell0 {l : List NodeS} {i : Nat} {x : NodeS} (h : l[i]? = some x) (k : Nat) (hk : k < 25) {v : AV} (hv : (nodeA x)[k]? = some v) : (nodesA l)[0 + i * 25 + k]? = some v := by
  rw [Nat.zero_add]
  exact (nodesA_cell h k hk).trans hv
theorem splice_nodes0 {ns : List NodeS} {i : Nat} {x x' : NodeS} {k : Nat} {vs : List AV} (hx : ns[i]? = some x) (hk : k + vs.length ≤ 25) (he : splice (nodeA x) k vs = nodeA x') : splice (nodesA ns) (0 + i * 25 + k) vs = nodesA (ns.set i x') := by
  rw [Nat.zero_add]
  exact splice_nodes hx hk he
end Go.Proofs.Ytnfkpnfafekflaa.Ab
/- Over the engine: a clone of a tree is one that may be as the tree is. -/
namespace Go.Proofs.Ytnfkpnfafekflaa.Ab
open Go Go.RowKit

theorem kindS_clone (ns : List NodeS) (d : Int) : kindS (ns.map cloneN) d = kindS ns d := by
  unfold kindS
  rw [List.getElem?_map]
  cases ns[d.toNat]? <;> rfl
theorem parentS_clone (ns : List NodeS) (d : Int) : parentS (ns.map cloneN) d = parentS ns d := by
  unfold parentS
  rw [List.getElem?_map]
  cases ns[d.toNat]? <;> rfl
theorem thereS_clone (ns : List NodeS) (d : Int) : thereS (ns.map cloneN) d = thereS ns d := by
  unfold thereS
  rw [kindS_clone, List.length_map]
theorem dirS_clone (ns : List NodeS) (d : Int) : dirS (ns.map cloneN) d = dirS ns d := by
  unfold dirS
  rw [thereS_clone, kindS_clone]
theorem entBad_clone (ns : List NodeS) (next : Int) (prev : List EntryS) (la : Int) (e : EntryS) : entBad (ns.map cloneN) next prev la e = entBad ns next prev la e := by
  unfold entBad
  rw [thereS_clone]
theorem entsBad_clone (ns : List NodeS) (next : Int) : ∀ (l prev : List EntryS) (la : Int), entsBad (ns.map cloneN) next prev la l = entsBad ns next prev la l
  | [], _, _ => rfl
  | e :: r, prev, la => by rw [entsBad, entsBad, entBad_clone, entsBad_clone ns next r]
theorem entriesS_clone (ns : List NodeS) (d : NodeS) : entriesS (ns.map cloneN) d = entriesS ns d := by
  unfold entriesS
  rw [entsBad_clone]
theorem cntE_clone (ns : List NodeS) (i : Int) : ∀ (l : List EntryS) (c : Cnt), cntE (ns.map cloneN) i c l = cntE ns i c l
  | [], _ => rfl
  | e :: r, c => by
    rw [cntE, cntE, cntE_clone ns i r]
    congr 1
    unfold stepE
    rw [dirS_clone]
theorem withinS_clone (ns : List NodeS) (top : Int) : ∀ (k : Nat) (d : Int), withinS (ns.map cloneN) top k d = withinS ns top k d
  | 0, _ => rfl
  | k + 1, d => by rw [withinS, withinS, dirS_clone, parentS_clone, withinS_clone ns top k]
theorem nodeBad_clone (ns : List NodeS) (tg : Int) (g : List Int) (x : NodeS) : nodeBad (ns.map cloneN) tg g (cloneN x) = nodeBad ns tg g x := by
  unfold nodeBad
  rw [entriesS_clone]
  rfl
theorem pass1_clone (ns : List NodeS) (tg : Int) : ∀ (l : List NodeS) (i : Int) (g : List Int) (c : Cnt), pass1 (ns.map cloneN) tg (l.map cloneN) i g c = pass1 ns tg l i g c
  | [], _, _, _ => rfl
  | x :: r, i, g, c => by
    rw [List.map_cons, pass1, pass1, nodeBad_clone, cntE_clone, pass1_clone ns tg r, pass1_clone ns tg r]
    rfl
theorem nodeBad2_clone (ns : List NodeS) (c : Cnt) (i : Int) (x : NodeS) : nodeBad2 (ns.map cloneN) c i (cloneN x) = nodeBad2 ns c i x := by
  unfold nodeBad2
  rw [withinS_clone, List.length_map]
  rfl
theorem pass2_clone (ns : List NodeS) (c : Cnt) : ∀ (l : List NodeS) (i : Int), pass2 (ns.map cloneN) c (l.map cloneN) i = pass2 ns c l i
  | [], _ => rfl
  | x :: r, i => by
    rw [List.map_cons, pass2, pass2, nodeBad2_clone, pass2_clone ns c r]
    rfl
theorem checkS_clone (ns : List NodeS) (tg : Int) : checkS (ns.map cloneN) tg = checkS ns tg := by
  unfold checkS preBad anyBad
  rw [List.length_map, kindS_clone, dirS_clone, parentS_clone, thereS_clone, pass1_clone, List.any_map]
  simp only [pass2_clone]
  rfl
end Go.Proofs.Ytnfkpnfafekflaa.Ab
/- Over the engine: a node that is turned to one that may be. -/
namespace Go.Proofs.Ytnfkpnfafekflaa.Ab
open Go Go.RowKit

/-- A node turned in what may turn. -/
structure Turned (x x' : NodeS) : Prop where
  kind : x'.kind = x.kind
  gen : x'.gen = x.gen
  links : x'.links = x.links
  ents : x'.ents = x.ents
  parent : x'.parent = x.parent
  next : x'.next = x.next
  mode : decide (x'.mode > 4095) = false
  rn : decide (x'.rn < 1000000000) = true
  wn : decide (x'.wn < 1000000000) = true
  tn : decide (x'.tn < 1000000000) = true
theorem nodeBad_turn {ns : List NodeS} {tg : Int} {g : List Int} {x x' : NodeS} (ht : Turned x x') (h : nodeBad ns tg g x = false) : nodeBad ns tg g x' = false := by
  have he : entriesS ns x' = entriesS ns x := by
    unfold entriesS
    rw [ht.ents, ht.next]
  unfold nodeBad at *
  rw [he, ht.gen, ht.kind, ht.mode, ht.rn, ht.wn, ht.tn]
  simp only [Bool.or_eq_false_iff] at h
  rw [h.1, h.2.1, h.2.2.2.2.2.2]
  rfl
theorem pass1_turn {ns : List NodeS} {tg : Int} {c' : Cnt} : ∀ (l : List NodeS) (k : Nat) (i : Int) (g : List Int) (c : Cnt) (x x' : NodeS), l[k]? = some x → Turned x x' → pass1 ns tg l i g c = some c' → pass1 ns tg (l.set k x') i g c = some c'
  | [], k, _, _, _, x, _, h, _, _ => by simp at h
  | y :: r, 0, i, g, c, x, x', h, ht, hp => by
    simp at h
    subst h
    rw [List.set_cons_zero, pass1, ht.kind, ht.gen, ht.ents]
    rw [pass1] at hp
    split at hp
    · rename_i hk
      rw [if_pos hk]
      split at hp
      · cases hp
      · rename_i hb
        have hb : nodeBad ns tg g y = false := by simpa using hb
        rw [nodeBad_turn ht hb, if_neg (fun h => Bool.noConfusion h)]
        exact hp
    · rename_i hk
      rw [if_neg hk]
      exact hp
  | y :: r, k + 1, i, g, c, x, x', h, ht, hp => by
    rw [List.set_cons_succ, pass1]
    rw [pass1] at hp
    split at hp
    · rename_i hk
      rw [if_pos hk]
      split at hp
      · cases hp
      · rename_i hb
        rw [if_neg hb]
        exact pass1_turn r k _ _ _ x x' (by simpa using h) ht hp
    · rename_i hk
      rw [if_neg hk]
      exact pass1_turn r k _ _ _ x x' (by simpa using h) ht hp
section
variable {ns : List NodeS} {n : Nat} {x x' : NodeS} (hx : ns[n]? = some x) (ht : Turned x x')
include hx ht
theorem parentS_turn (d : Int) : parentS (ns.set n x') d = parentS ns d := by
  obtain ⟨h1, _⟩ := List.getElem?_eq_some_iff.1 hx
  unfold parentS
  by_cases hd : n = d.toNat
  · subst hd
    rw [List.getElem?_set_self h1, hx]
    exact ht.parent
  · rw [List.getElem?_set_ne hd]
theorem withinS_turn (top : Int) : ∀ (k : Nat) (d : Int), withinS (ns.set n x') top k d = withinS ns top k d
  | 0, _ => rfl
  | k + 1, d => by rw [withinS, withinS, dirS_set hx ht.kind, parentS_turn hx ht, withinS_turn top k]
theorem nodeBad2_ns (c : Cnt) (i : Int) (y : NodeS) : nodeBad2 (ns.set n x') c i y = nodeBad2 ns c i y := by
  unfold nodeBad2
  rw [withinS_turn hx ht, List.length_set]
theorem pass2_ns (c : Cnt) : ∀ (l : List NodeS) (i : Int), pass2 (ns.set n x') c l i = pass2 ns c l i
  | [], _ => rfl
  | y :: r, i => by rw [pass2, pass2, nodeBad2_ns hx ht, pass2_ns c r]
end
theorem pass2_turn {ns : List NodeS} {c : Cnt} : ∀ (l : List NodeS) (k : Nat) (i : Int) (x x' : NodeS), l[k]? = some x → Turned x x' → pass2 ns c (l.set k x') i = pass2 ns c l i
  | [], k, _, x, _, h, _ => by simp at h
  | y :: r, 0, i, x, x', h, ht => by
    simp at h
    subst h
    have hb : nodeBad2 ns c i x' = nodeBad2 ns c i y := by
      unfold nodeBad2
      rw [ht.kind, ht.links, ht.parent]
    rw [List.set_cons_zero, pass2, pass2, hb, ht.kind]
  | y :: r, k + 1, i, x, x', h, ht => by
    rw [List.set_cons_succ, pass2, pass2, pass2_turn r k _ x x' (by simpa using h) ht]
/-- A tree that may be stays one. -/
theorem checkS_turn {ns : List NodeS} {tg : Int} {n : Nat} {x x' : NodeS} (h : checkS ns tg = true) (hx : ns[n]? = some x) (ht : Turned x x') (ho : onlyS x' = true) : checkS (ns.set n x') tg = true := by
  obtain ⟨h1, h2, c, h3, h4⟩ := checkS_has h
  have hp : preBad (ns.set n x') = false := by
    unfold preBad at *
    rw [List.length_set, kindS_set hx ht.kind, dirS_set hx ht.kind, parentS_turn hx ht, thereS_set hx ht.kind]
    exact h1
  have ha : anyBad (ns.set n x') = false := by
    unfold anyBad at *
    rw [List.any_eq_false] at h2 ⊢
    intro y hy
    rcases List.mem_or_eq_of_mem_set hy with hy | rfl
    · exact h2 y hy
    · rw [ho]
      decide
  unfold checkS
  rw [hp, ha, List.length_set, pass1_ns hx ht.kind, pass1_turn ns n _ _ _ x x' hx ht h3]
  simp only [pass2_ns hx ht, pass2_turn ns n 0 x x' hx ht, h4]
  rfl
end Go.Proofs.Ytnfkpnfafekflaa.Ab
/- Over the engine: what is asked of a node: guard's asking. -/
namespace Go.Proofs.Ytnfkpnfafekflaa.Ab
open Go Go.RowKit

/-- What is to be set. -/
structure SetS where
  hm : Bool
  mode : Int
  hu : Bool
  user : Int
  hg : Bool
  group : Int
  hs : Bool
  size : Int
  rh : Int
  rs : Int
  rn : Int
  wh : Int
  ws : Int
  wn : Int
def setA (s : SetS) : List AV := [.bool s.hm, .int .u32 s.mode, .bool s.hu, .int .u32 s.user, .bool s.hg, .int .u32 s.group, .bool s.hs, .int .u64 s.size, .int .u32 s.rh, .int .u32 s.rs, .int .u32 s.rn, .int .u32 s.wh, .int .u32 s.ws, .int .u32 s.wn]
/-- What is asked, by whom, when. -/
def askA (v : AV) (gen n : Int) (c : CredS) (s : SetS) (ss sn : Int) (owns : Bool) : AV :=
  .agg [v, .int .u32 gen, .int .i64 n, .int .u32 c.user, .int .u32 c.group, c.gs, .bool s.hm, .int .u32 s.mode, .bool s.hu, .int .u32 s.user, .bool s.hg, .int .u32 s.group, .bool s.hs, .int .u64 s.size, .int .u32 s.rh, .int .u32 s.rs, .int .u32 s.rn, .int .u32 s.wh, .int .u32 s.ws, .int .u32 s.wn, .int .u32 ss, .int .u32 sn, .bool owns]
set_option maxRecDepth 100000
def nanoOk (n : Int) : Bool := decide (n < 1000000000)
theorem times_c (m : Nat) (from_ : FuncId) (h : H) (s n : Int) : evCall TE (m + 1) from_ (.fn 20 [] []) [.agg [.int .u32 s, .int .u32 n]] h = some (.ret (.bool (nanoOk n)), h) := by
  refine call_clean (fn := Try.f20) rfl Try.func20 rfl rfl rfl rfl rfl (Nat.le_of_ble_eq_true rfl) ?_
  conv => whnf
  rfl
def ownsS (ns : List NodeS) (n : Int) (c : CredS) : Bool := thereS ns n && (c.user == 0 || c.user == (match ns[n.toNat]? with | some x => x.user | none => 0))
/-- The refusals: of the form. -/
def badT (how nano : Int) : Bool := decide (how > 2) || (how == 2 && !nanoOk nano)
def form0 (s : SetS) (sn : Int) : Bool := (s.hm && decide (s.mode > 4095)) || !nanoOk sn
def form1 (s : SetS) (sn : Int) : Bool := form0 s sn || badT s.rh s.rn
def form2 (s : SetS) (sn : Int) : Bool := form1 s sn || badT s.wh s.wn
def formS (s : SetS) (sn : Int) : Int := if form2 s sn = true then 22 else 0
def writesS (ns : List NodeS) (n : Int) (c : CredS) (owns : Bool) : Bool := owns || (match ns[n.toNat]? with | some x => mayX x c 2 | none => false)
def ownerS (x : NodeS) (c : CredS) (s : SetS) (owns : Bool) : Bool :=
  (s.hm && !owns) || (s.hu && !(c.user == 0) && (!owns || s.user != x.user)) || (s.hg && (!owns || (!(c.user == 0) && s.group != x.group && !inS c s.group)))
def sizeB (x : NodeS) (s : SetS) (w : Bool) : Int := if s.hs = false then 0 else if (x.kind == 2) = true then 21 else if (x.kind == 5) = true then 22 else if decide (s.size > 65536) = true then 27 else if w = false then 13 else 0
def stampsB (s : SetS) (owns w : Bool) : Int := if ((s.rh == 2 || s.wh == 2) && !owns) = true then 1 else if ((s.rh == 1 || s.wh == 1) && !w) = true then 13 else 0
section
variable (m : Nat) (from_ : FuncId) (h : H) (ns : List NodeS) (t : Bool) (gen n : Int) (c : CredS) (hc : c.ok) (s : SetS) (ss sn : Int) (owns : Bool)
include hc
variable (hok : ∀ x ∈ ns, x.ok) (hn : thereS ns n = true) (x : NodeS) (hx : ns[n.toNat]? = some x)
include hok hn hx
end
end Go.Proofs.Ytnfkpnfafekflaa.Ab
/- Over the engine: are two trees alike? -/
namespace Go.Proofs.Ytnfkpnfafekflaa.Ab
open Go Go.RowKit

def allSame {α : Type} (f : α → α → Bool) : List α → List α → Bool
  | [], [] => true
  | a :: x, b :: y => f a b && allSame f x y
  | _, _ => false
theorem allSame_len {α : Type} {f : α → α → Bool} : ∀ {x y : List α}, allSame f x y = true → x.length = y.length
  | [], [], _ => rfl
  | [], _ :: _, h => by simp [allSame] at h
  | _ :: _, [], h => by simp [allSame] at h
  | a :: x, b :: y, h => by
    simp only [allSame, Bool.and_eq_true] at h
    simp [allSame_len h.2]
theorem allSame_ne {α : Type} {f : α → α → Bool} {x y : List α} (h : x.length ≠ y.length) : allSame f x y = false := by
  cases hb : allSame f x y with
  | false => rfl
  | true => exact absurd (allSame_len hb) h
theorem allSame_drop {α : Type} {f : α → α → Bool} {x y : List α} {i : Nat} {a b : α} (ha : x[i]? = some a) (hb : y[i]? = some b) : allSame f (x.drop i) (y.drop i) = (f a b && allSame f (x.drop (i + 1)) (y.drop (i + 1))) := by
  obtain ⟨h1, rfl⟩ := List.getElem?_eq_some_iff.1 ha
  obtain ⟨h2, rfl⟩ := List.getElem?_eq_some_iff.1 hb
  rw [List.drop_eq_getElem_cons h1, List.drop_eq_getElem_cons h2, allSame]
theorem allSame_eq {α : Type} [DecidableEq α] : ∀ {x y : List α}, allSame (fun a b => decide (a = b)) x y = decide (x = y)
  | [], [] => rfl
  | [], _ :: _ => by simp [allSame]
  | _ :: _, [] => by simp [allSame]
  | a :: x, b :: y => by simp [allSame, allSame_eq (x := x) (y := y)]
def intEq (a b : Int) : Bool := decide (a = b)
theorem allSame_int {x y : List Int} : allSame intEq x y = decide (x = y) := allSame_eq
def entEq (a b : EntryS) : Bool := a.name == b.name && (a.node == b.node && (a.cookie == b.cookie && true))
theorem entEq_iff {a b : EntryS} : entEq a b = true ↔ a = b := by
  obtain ⟨n, k, c⟩ := a
  obtain ⟨n', k', c'⟩ := b
  simp [entEq]
set_option maxRecDepth 100000

def sameBytesS (l1 : List Int) (t1 : Bool) (l2 : List Int) (t2 : Bool) (i : Int) : ST :=
  ⟨RG.of 26 [(5, .int .i64 i), (1, .sl (numsA .u8 l2) l2.length t2), (0, .sl (numsA .u8 l1) l1.length t1)], ⟨[], []⟩⟩
def sameEntsS (l1 : List EntryS) (t1 : Bool) (l2 : List EntryS) (t2 : Bool) (i : Int) : ST :=
  ⟨RG.of 26 [(5, .int .i64 i), (1, .sl (entriesA l2) l2.length t2), (0, .sl (entriesA l1) l1.length t1)], ⟨[], []⟩⟩
def verfEq (x y : NodeS) : Bool := x.verf 0 == y.verf 0 && (x.verf 1 == y.verf 1 && (x.verf 2 == y.verf 2 && (x.verf 3 == y.verf 3 && (x.verf 4 == y.verf 4 && (x.verf 5 == y.verf 5 && (x.verf 6 == y.verf 6 && (x.verf 7 == y.verf 7 && true)))))))
def nodeEq (x y : NodeS) : Bool :=
  x.kind == y.kind && (x.gen == y.gen && (x.mode == y.mode && (x.user == y.user && (x.group == y.group && (x.links == y.links && ((x.rs == y.rs && (x.rn == y.rn && true)) && ((x.ws == y.ws && (x.wn == y.wn && true)) && ((x.ts == y.ts && (x.tn == y.tn && true)) &&
  (allSame intEq x.bytes y.bytes && (verfEq x y && (x.target == y.target && (allSame entEq x.ents y.ents && (x.parent == y.parent && x.next == y.next)))))))))))))
def sameNodesS (l1 : List NodeS) (t1 : Bool) (l2 : List NodeS) (t2 : Bool) (i : Int) : ST :=
  ⟨RG.of 27 [(5, .int .i64 i), (1, .sl (nodesA l2) l2.length t2), (0, .sl (nodesA l1) l1.length t1)], ⟨[], []⟩⟩
end Go.Proofs.Ytnfkpnfafekflaa.Ab
/- Over the engine: what is set of a node, in plain words; set twice is set once. -/
namespace Go.Proofs.Ytnfkpnfafekflaa.Ab
open Go Go.RowKit

/-- A file's bytes, so many. -/
def sized (l : List Int) (n : Nat) : List Int := l.take n ++ List.replicate (n - l.length) 0
theorem sized_len (l : List Int) (n : Nat) : (sized l n).length = n := by
  unfold sized
  rw [List.length_append, List.length_take, List.length_replicate]
  omega
theorem sized_self {l : List Int} {n : Nat} (h : l.length = n) : sized l n = l := by
  unfold sized
  rw [List.take_of_length_le (by omega), show n - l.length = 0 by omega]
  simp
/-- The deeds, one after the other. -/
def turned (x : NodeS) (ss sn : Int) : NodeS := { x with ts := ss, tn := sn }
def deed1 (s : SetS) (ss sn : Int) (x : NodeS) : NodeS := if s.hm = true then { x with mode := s.mode, ts := ss, tn := sn } else x
def deed2 (s : SetS) (ss sn : Int) (x : NodeS) : NodeS := if s.hu = true then { x with user := s.user, ts := ss, tn := sn } else x
def deed3 (s : SetS) (ss sn : Int) (x : NodeS) : NodeS := if s.hg = true then { x with group := s.group, ts := ss, tn := sn } else x
def deed4 (s : SetS) (ss sn : Int) (d : AV) (x : NodeS) : NodeS := if s.hs = true then { x with data := d, bytes := sized x.bytes s.size.toNat, ws := ss, wn := sn, ts := ss, tn := sn } else x
def deed5 (s : SetS) (ss sn : Int) (x : NodeS) : NodeS := if (s.rh == 2) = true then { x with rs := s.rs, rn := s.rn, ts := ss, tn := sn } else if (s.rh == 1) = true then { x with rs := ss, rn := sn, ts := ss, tn := sn } else x
def deed6 (s : SetS) (ss sn : Int) (x : NodeS) : NodeS := if (s.wh == 2) = true then { x with ws := s.ws, wn := s.wn, ts := ss, tn := sn } else if (s.wh == 1) = true then { x with ws := ss, wn := sn, ts := ss, tn := sn } else x
def deeds (s : SetS) (ss sn : Int) (d : AV) (x : NodeS) : NodeS := deed6 s ss sn (deed5 s ss sn (deed4 s ss sn d (deed3 s ss sn (deed2 s ss sn (deed1 s ss sn x)))))
theorem verfEq_self (x y : NodeS) (h : x.verf = y.verf) : verfEq x y = true := by
  unfold verfEq
  rw [h]
  simp
theorem entsEq_self (l : List EntryS) : allSame entEq l l = true := by
  induction l with
  | nil => rfl
  | cons a l ih => rw [allSame, ih, Bool.and_true]; exact entEq_iff.2 rfl
theorem bytesEq_self (l : List Int) : allSame intEq l l = true := by
  rw [allSame_int]
  simp
/-- A node, but for how its rows are told. -/
def likeN (x y : NodeS) : Prop := x.kind = y.kind ∧ x.gen = y.gen ∧ x.mode = y.mode ∧ x.user = y.user ∧ x.group = y.group ∧ x.links = y.links ∧ x.rs = y.rs ∧ x.rn = y.rn ∧ x.ws = y.ws ∧ x.wn = y.wn ∧ x.ts = y.ts ∧ x.tn = y.tn ∧ x.bytes = y.bytes ∧ x.verf = y.verf ∧ x.target = y.target ∧ x.ents = y.ents ∧ x.parent = y.parent ∧ x.next = y.next
theorem nodeEq_of {x y : NodeS} (h : likeN x y) : nodeEq x y = true := by
  obtain ⟨h1, h2, h3, h4, h5, h6, h7, h8, h9, h10, h11, h12, h13, h14, h15, h16, h17, h18⟩ := h
  unfold nodeEq
  rw [h1, h2, h3, h4, h5, h6, h7, h8, h9, h10, h11, h12, h13, h15, h16, h17, h18, verfEq_self x y h14, entsEq_self, bytesEq_self]
  simp
section
variable (s : SetS) (ss sn : Int) (d : AV) (y : NodeS)
theorem deeds_kind : (deeds s ss sn d y).kind = y.kind := by
  simp only [deeds, deed6, deed5, deed4, deed3, deed2, deed1, apply_ite NodeS.kind, ite_self]
theorem deeds_gen : (deeds s ss sn d y).gen = y.gen := by
  simp only [deeds, deed6, deed5, deed4, deed3, deed2, deed1, apply_ite NodeS.gen, ite_self]
theorem deeds_mode : (deeds s ss sn d y).mode = if s.hm = true then s.mode else y.mode := by
  simp only [deeds, deed6, deed5, deed4, deed3, deed2, deed1, apply_ite NodeS.mode, ite_self]
theorem deeds_user : (deeds s ss sn d y).user = if s.hu = true then s.user else y.user := by
  simp only [deeds, deed6, deed5, deed4, deed3, deed2, deed1, apply_ite NodeS.user, ite_self]
theorem deeds_group : (deeds s ss sn d y).group = if s.hg = true then s.group else y.group := by
  simp only [deeds, deed6, deed5, deed4, deed3, deed2, deed1, apply_ite NodeS.group, ite_self]
theorem deeds_links : (deeds s ss sn d y).links = y.links := by
  simp only [deeds, deed6, deed5, deed4, deed3, deed2, deed1, apply_ite NodeS.links, ite_self]
theorem deeds_rs : (deeds s ss sn d y).rs = if (s.rh == 2) = true then s.rs else if (s.rh == 1) = true then ss else y.rs := by
  simp only [deeds, deed6, deed5, deed4, deed3, deed2, deed1, apply_ite NodeS.rs, ite_self]
theorem deeds_rn : (deeds s ss sn d y).rn = if (s.rh == 2) = true then s.rn else if (s.rh == 1) = true then sn else y.rn := by
  simp only [deeds, deed6, deed5, deed4, deed3, deed2, deed1, apply_ite NodeS.rn, ite_self]
theorem deeds_ws : (deeds s ss sn d y).ws = if (s.wh == 2) = true then s.ws else if (s.wh == 1) = true then ss else if s.hs = true then ss else y.ws := by
  simp only [deeds, deed6, deed5, deed4, deed3, deed2, deed1, apply_ite NodeS.ws, ite_self]
theorem deeds_wn : (deeds s ss sn d y).wn = if (s.wh == 2) = true then s.wn else if (s.wh == 1) = true then sn else if s.hs = true then sn else y.wn := by
  simp only [deeds, deed6, deed5, deed4, deed3, deed2, deed1, apply_ite NodeS.wn, ite_self]
theorem deeds_ts : (deeds s ss sn d y).ts = if (s.wh == 2) = true then ss else if (s.wh == 1) = true then ss else if (s.rh == 2) = true then ss else if (s.rh == 1) = true then ss else if s.hs = true then ss else if s.hg = true then ss else if s.hu = true then ss else if s.hm = true then ss else y.ts := by
  simp only [deeds, deed6, deed5, deed4, deed3, deed2, deed1, apply_ite NodeS.ts, ite_self]
theorem deeds_tn : (deeds s ss sn d y).tn = if (s.wh == 2) = true then sn else if (s.wh == 1) = true then sn else if (s.rh == 2) = true then sn else if (s.rh == 1) = true then sn else if s.hs = true then sn else if s.hg = true then sn else if s.hu = true then sn else if s.hm = true then sn else y.tn := by
  simp only [deeds, deed6, deed5, deed4, deed3, deed2, deed1, apply_ite NodeS.tn, ite_self]
theorem deeds_bytes : (deeds s ss sn d y).bytes = if s.hs = true then sized y.bytes s.size.toNat else y.bytes := by
  simp only [deeds, deed6, deed5, deed4, deed3, deed2, deed1, apply_ite NodeS.bytes, ite_self]
theorem deeds_verf : (deeds s ss sn d y).verf = y.verf := by
  simp only [deeds, deed6, deed5, deed4, deed3, deed2, deed1, apply_ite NodeS.verf, ite_self]
theorem deeds_target : (deeds s ss sn d y).target = y.target := by
  simp only [deeds, deed6, deed5, deed4, deed3, deed2, deed1, apply_ite NodeS.target, ite_self]
theorem deeds_ents : (deeds s ss sn d y).ents = y.ents := by
  simp only [deeds, deed6, deed5, deed4, deed3, deed2, deed1, apply_ite NodeS.ents, ite_self]
theorem deeds_parent : (deeds s ss sn d y).parent = y.parent := by
  simp only [deeds, deed6, deed5, deed4, deed3, deed2, deed1, apply_ite NodeS.parent, ite_self]
theorem deeds_next : (deeds s ss sn d y).next = y.next := by
  simp only [deeds, deed6, deed5, deed4, deed3, deed2, deed1, apply_ite NodeS.next, ite_self]
end
theorem deeds_twice (s : SetS) (ss sn : Int) (d d' : AV) (x : NodeS) (x' : NodeS) (h : likeN (deeds s ss sn d x) x') : likeN (deeds s ss sn d x) (deeds s ss sn d' x') := by
  obtain ⟨h1, h2, h3, h4, h5, h6, h7, h8, h9, h10, h11, h12, h13, h14, h15, h16, h17, h18⟩ := h
  refine ⟨?_, ?_, ?_, ?_, ?_, ?_, ?_, ?_, ?_, ?_, ?_, ?_, ?_, ?_, ?_, ?_, ?_, ?_⟩
  · rw [deeds_kind s ss sn d' x', ← h1, deeds_kind]
  · rw [deeds_gen s ss sn d' x', ← h2, deeds_gen]
  · rw [deeds_mode s ss sn d' x', ← h3, deeds_mode]
    by_cases k0 : s.hm = true
    · rw [if_pos k0, if_pos k0]
    · rw [if_neg k0, if_neg k0]
  · rw [deeds_user s ss sn d' x', ← h4, deeds_user]
    by_cases k0 : s.hu = true
    · rw [if_pos k0, if_pos k0]
    · rw [if_neg k0, if_neg k0]
  · rw [deeds_group s ss sn d' x', ← h5, deeds_group]
    by_cases k0 : s.hg = true
    · rw [if_pos k0, if_pos k0]
    · rw [if_neg k0, if_neg k0]
  · rw [deeds_links s ss sn d' x', ← h6, deeds_links]
  · rw [deeds_rs s ss sn d' x', ← h7, deeds_rs]
    by_cases k0 : (s.rh == 2) = true
    · rw [if_pos k0, if_pos k0]
    · rw [if_neg k0, if_neg k0]
      by_cases k1 : (s.rh == 1) = true
      · rw [if_pos k1, if_pos k1]
      · rw [if_neg k1, if_neg k1]
  · rw [deeds_rn s ss sn d' x', ← h8, deeds_rn]
    by_cases k0 : (s.rh == 2) = true
    · rw [if_pos k0, if_pos k0]
    · rw [if_neg k0, if_neg k0]
      by_cases k1 : (s.rh == 1) = true
      · rw [if_pos k1, if_pos k1]
      · rw [if_neg k1, if_neg k1]
  · rw [deeds_ws s ss sn d' x', ← h9, deeds_ws]
    by_cases k0 : (s.wh == 2) = true
    · rw [if_pos k0, if_pos k0]
    · rw [if_neg k0, if_neg k0]
      by_cases k1 : (s.wh == 1) = true
      · rw [if_pos k1, if_pos k1]
      · rw [if_neg k1, if_neg k1]
        by_cases k2 : s.hs = true
        · rw [if_pos k2, if_pos k2]
        · rw [if_neg k2, if_neg k2]
  · rw [deeds_wn s ss sn d' x', ← h10, deeds_wn]
    by_cases k0 : (s.wh == 2) = true
    · rw [if_pos k0, if_pos k0]
    · rw [if_neg k0, if_neg k0]
      by_cases k1 : (s.wh == 1) = true
      · rw [if_pos k1, if_pos k1]
      · rw [if_neg k1, if_neg k1]
        by_cases k2 : s.hs = true
        · rw [if_pos k2, if_pos k2]
        · rw [if_neg k2, if_neg k2]
  · rw [deeds_ts s ss sn d' x', ← h11, deeds_ts]
    by_cases k0 : (s.wh == 2) = true
    · rw [if_pos k0, if_pos k0]
    · rw [if_neg k0, if_neg k0]
      by_cases k1 : (s.wh == 1) = true
      · rw [if_pos k1, if_pos k1]
      · rw [if_neg k1, if_neg k1]
        by_cases k2 : (s.rh == 2) = true
        · rw [if_pos k2, if_pos k2]
        · rw [if_neg k2, if_neg k2]
          by_cases k3 : (s.rh == 1) = true
          · rw [if_pos k3, if_pos k3]
          · rw [if_neg k3, if_neg k3]
            by_cases k4 : s.hs = true
            · rw [if_pos k4, if_pos k4]
            · rw [if_neg k4, if_neg k4]
              by_cases k5 : s.hg = true
              · rw [if_pos k5, if_pos k5]
              · rw [if_neg k5, if_neg k5]
                by_cases k6 : s.hu = true
                · rw [if_pos k6, if_pos k6]
                · rw [if_neg k6, if_neg k6]
                  by_cases k7 : s.hm = true
                  · rw [if_pos k7, if_pos k7]
                  · rw [if_neg k7, if_neg k7]
  · rw [deeds_tn s ss sn d' x', ← h12, deeds_tn]
    by_cases k0 : (s.wh == 2) = true
    · rw [if_pos k0, if_pos k0]
    · rw [if_neg k0, if_neg k0]
      by_cases k1 : (s.wh == 1) = true
      · rw [if_pos k1, if_pos k1]
      · rw [if_neg k1, if_neg k1]
        by_cases k2 : (s.rh == 2) = true
        · rw [if_pos k2, if_pos k2]
        · rw [if_neg k2, if_neg k2]
          by_cases k3 : (s.rh == 1) = true
          · rw [if_pos k3, if_pos k3]
          · rw [if_neg k3, if_neg k3]
            by_cases k4 : s.hs = true
            · rw [if_pos k4, if_pos k4]
            · rw [if_neg k4, if_neg k4]
              by_cases k5 : s.hg = true
              · rw [if_pos k5, if_pos k5]
              · rw [if_neg k5, if_neg k5]
                by_cases k6 : s.hu = true
                · rw [if_pos k6, if_pos k6]
                · rw [if_neg k6, if_neg k6]
                  by_cases k7 : s.hm = true
                  · rw [if_pos k7, if_pos k7]
                  · rw [if_neg k7, if_neg k7]
  · rw [deeds_bytes s ss sn d' x', ← h13, deeds_bytes]
    by_cases k0 : s.hs = true
    · rw [if_pos k0, if_pos k0, sized_self (sized_len _ _)]
    · rw [if_neg k0, if_neg k0]
  · rw [deeds_verf s ss sn d' x', ← h14, deeds_verf]
  · rw [deeds_target s ss sn d' x', ← h15, deeds_target]
  · rw [deeds_ents s ss sn d' x', ← h16, deeds_ents]
  · rw [deeds_parent s ss sn d' x', ← h17, deeds_parent]
  · rw [deeds_next s ss sn d' x', ← h18, deeds_next]
end Go.Proofs.Ytnfkpnfafekflaa.Ab
/- Over the engine: what is set keeps a tree. -/
namespace Go.Proofs.Ytnfkpnfafekflaa.Ab
open Go Go.RowKit

theorem bne_zero {a : Int} (h : a = 0) : (a != 0) = false := by rw [h]; rfl
/-- What the form lets through. -/
theorem form_facts {s : SetS} {sn : Int} (h : formS s sn = 0) : (s.hm = true → s.mode ≤ 4095) ∧ sn < 1000000000 ∧ ((s.rh == 2) = true → s.rn < 1000000000) ∧ ((s.wh == 2) = true → s.wn < 1000000000) := by
  unfold formS at h
  cases hf : form2 s sn with
  | true => rw [hf] at h; simp at h
  | false =>
    unfold form2 form1 form0 badT nanoOk at hf
    simp only [Bool.or_eq_false_iff, Bool.and_eq_false_iff, Bool.not_eq_false', decide_eq_false_iff_not, decide_eq_true_eq] at hf
    obtain ⟨⟨⟨h1, h2⟩, _, h3⟩, _, h4⟩ := hf
    refine ⟨fun hm => ?_, h2, fun hr => ?_, fun hw => ?_⟩
    · rcases h1 with h1 | h1
      · rw [hm] at h1; cases h1
      · omega
    · rcases h3 with h3 | h3
      · rw [hr] at h3; cases h3
      · exact h3
    · rcases h4 with h4 | h4
      · rw [hw] at h4; cases h4
      · exact h4
theorem deeds_turned {s : SetS} {ss sn : Int} {d : AV} {x : NodeS} (hf : formS s sn = 0) (hm : x.mode ≤ 4095) (hr : x.rn < 1000000000) (hw : x.wn < 1000000000) (ht : x.tn < 1000000000) : Turned x (deeds s ss sn d x) := by
  obtain ⟨f1, f2, f3, f4⟩ := form_facts hf
  refine ⟨deeds_kind .., deeds_gen .., deeds_links .., deeds_ents .., deeds_parent .., deeds_next .., ?_, ?_, ?_, ?_⟩
  · rw [deeds_mode]
    refine decide_eq_false ?_
    split
    · rename_i h; have := f1 h; omega
    · omega
  · rw [deeds_rn]
    refine decide_eq_true ?_
    split
    · rename_i h; exact f3 h
    · split
      · exact f2
      · exact hr
  · rw [deeds_wn]
    refine decide_eq_true ?_
    split
    · rename_i h; exact f4 h
    · split
      · exact f2
      · split
        · exact f2
        · exact hw
  · rw [deeds_tn]
    refine decide_eq_true ?_
    repeat' split
    all_goals first | exact f2 | exact ht
end Go.Proofs.Ytnfkpnfafekflaa.Ab
/- Over the engine: the deeds that are done to a node. -/
namespace Go.Proofs.Ytnfkpnfafekflaa.Ab
open Go Go.RowKit

set_option maxRecDepth 100000
/-- What the loops of some code go through, in order. -/
def loopsOf : Code → List Code
  | .loop b => [b]
  | .seq a b => loopsOf a ++ loopsOf b
  | .cond _ a b => loopsOf a ++ loopsOf b
  | .block _ b => loopsOf b
  | .scope b => loopsOf b
  | _ => []
def loopAt (fn : Func) (k : Nat) : Code := match fn.body with
  | some c => (loopsOf c).getD k .skip
  | none => .skip
section
variable (b0 b1 b4 b5 b6 b7 b8 b9 b10 b11 b12 b13 b14 b15 b16 b17 b18 b19 b20 : AB) (s : SetS) (ss sn : Int) (bo : Nat → Int) (n : Int)
end
theorem set_same {α : Type} {l : List α} {i : Nat} {x : α} (h : l[i]? = some x) : l.set i x = l := by
  obtain ⟨h1, rfl⟩ := List.getElem?_eq_some_iff.1 h
  exact List.set_getElem_self h1
theorem splice_sized (l : List Int) (z : Nat) : splice (List.replicate z (.int .u8 0)) 0 ((numsA .u8 l).take (min l.length z)) = numsA .u8 (sized l z) := by
  rcases Nat.le_total l.length z with h | h
  · rw [Nat.min_eq_left h, List.take_of_length_le (by simp [numsA])]
    unfold sized
    rw [List.take_of_length_le h]
    obtain ⟨k, rfl⟩ : ∃ k, z = l.length + k := ⟨z - l.length, by omega⟩
    rw [Nat.add_sub_cancel_left, List.replicate_append_replicate.symm]
    have h1 := splice_left (List.replicate l.length (AV.int .u8 0)) (List.replicate k (AV.int .u8 0)) 0 (numsA .u8 l) (by simp [numsA])
    rw [h1, splice_all _ _ (by simp [numsA])]
    simp [numsA]
  · rw [Nat.min_eq_right h]
    rw [splice_all _ _ (by simp [numsA]; omega)]
    unfold sized
    rw [show z - l.length = 0 by omega]
    simp [numsA]
theorem splice_sized0 (z : Nat) : splice (List.replicate z (.int .u8 0)) 0 [] = numsA .u8 (sized [] z) := by
  rw [splice_nil]
  simp [sized, numsA]
theorem numsA_top (k : IntKind) : ∀ l : List Int, topL (numsA k l) = 0
  | [] => rfl
  | a :: l => by
    show max 0 (topL (numsA k l)) = 0
    rw [numsA_top k l]
    rfl
theorem numsA_take (k : IntKind) (l : List Int) (n : Nat) : (numsA k l).take n = numsA k (l.take n) := by simp [numsA]
/-- So many deeds. -/
def deedK (s : SetS) (ss sn : Int) (d : AV) (k : Nat) (x : NodeS) : NodeS := match k with
  | 0 => x
  | 1 => deed1 s ss sn x
  | 2 => deed2 s ss sn (deed1 s ss sn x)
  | 3 => deed3 s ss sn (deed2 s ss sn (deed1 s ss sn x))
  | 4 => deed4 s ss sn d (deed3 s ss sn (deed2 s ss sn (deed1 s ss sn x)))
  | 5 => deed5 s ss sn (deed4 s ss sn d (deed3 s ss sn (deed2 s ss sn (deed1 s ss sn x))))
  | _ => deeds s ss sn d x

end Go.Proofs.Ytnfkpnfafekflaa.Ab
/- Over the engine: what is set of a node. -/
namespace Go.Proofs.Ytnfkpnfafekflaa.Ab
open Go Go.RowKit

set_option maxRecDepth 100000
def worldA (ss sn : Int) (bo : Nat → Int) : AV := .agg [.int .u32 ss, .int .u32 sn, .int .u8 (bo 0), .int .u8 (bo 1), .int .u8 (bo 2), .int .u8 (bo 3), .int .u8 (bo 4), .int .u8 (bo 5), .int .u8 (bo 6), .int .u8 (bo 7)]
theorem seal_tup2 {d : List AB → List AV → List AV × List AB} {bs bs' : List AB} {v v' : AV} {k k2 : IntKind} {g e : Int} (h : sealV d bs v = (v', bs')) : sealV d bs (.tup [.agg [v, .int k g], .int k2 e]) = (.tup [.agg [v', .int k g], .int k2 e], bs') := by
  simp only [sealV, sealVL, h]
theorem nodeA_clean {x : NodeS} (h1 : x.data.clean = true) (h2 : x.list.clean = true) : cleanL (nodeA x) = true := by
  unfold nodeA
  simp only [cleanL, h1, h2, AV.clean, Bool.and_self]
theorem nodesA_clean : ∀ {l : List NodeS}, (∀ x ∈ l, x.data.clean = true ∧ x.list.clean = true) → cleanL (nodesA l) = true
  | [], _ => rfl
  | x :: l, h => by
    show cleanL (nodeA x ++ nodesA l) = true
    rw [cleanL_app, nodeA_clean (h x (List.mem_cons_self ..)).1 (h x (List.mem_cons_self ..)).2, nodesA_clean fun y hy => h y (List.mem_cons_of_mem _ hy)]
    rfl
theorem row_clean {k : IntKind} {v : AV} {l : List Int} (h : rowOk k v l) : v.clean = true := by
  rcases h with ⟨rfl, _⟩ | ⟨t, rfl⟩ <;> rfl
theorem ents_clean {v : AV} {l : List EntryS} (h : entsOk v l) : v.clean = true := by
  rcases h with ⟨rfl, _⟩ | ⟨t, rfl⟩ <;> rfl
/-- A row of bytes that was made here is written no more. -/
theorem sealV_bytes {d : List AB → List AV → List AV × List AB} {bs : List AB} {b z : Nat} {c : List AV} (hb : bs[b]? = some (.cells c ⟨true, 1, false, true⟩)) (hc : c.length = z) : sealV d bs (.rsl b 0 z (some z) 0) = (.sl c z true, bs.set b (.cells c ⟨true, 1, false, false⟩)) := by
  have hs : sealB d bs b 0 = some (c, ⟨true, 1, false, true⟩, bs.set b (.cells c ⟨true, 1, false, false⟩)) := by
    unfold sealB
    simp only [hb]
    rfl
  simp only [sealV, hs, tightA, decide_true, Nat.mul_one]
  rw [if_pos ⟨by omega, by decide⟩, if_pos ⟨trivial, hc⟩]
/-- The nodes, of which one has such bytes. -/
theorem sealVL_one {d : List AB → List AV → List AV × List AB} {bs : List AB} {b z : Nat} {c : List AV} (hb : bs[b]? = some (.cells c ⟨true, 1, false, true⟩)) (hc : c.length = z) : ∀ (l : List NodeS) (i : Nat) (y : NodeS), (∀ x ∈ l, x.data.clean = true ∧ x.list.clean = true) → i < l.length → y.data = .rsl b 0 z (some z) 0 → y.list.clean = true →
    sealVL d bs (nodesA (l.set i y)) = (nodesA (l.set i { y with data := .sl c z true }), bs.set b (.cells c ⟨true, 1, false, false⟩))
  | [], i, y, _, hi, _, _ => by simp at hi
  | x :: l, 0, y, hl, _, hy, hyl => by
    show sealVL d bs (nodeA y ++ nodesA l) = (nodeA { y with data := .sl c z true } ++ nodesA l, _)
    have h1 : sealVL d bs (nodeA y) = (nodeA { y with data := .sl c z true }, bs.set b (.cells c ⟨true, 1, false, false⟩)) := by
      unfold nodeA
      have hl2 : ∀ bs, sealV d bs y.list = (y.list, bs) := fun bs => sealV_clean d bs _ hyl
      have hd2 : sealV d bs y.data = (.sl c z true, bs.set b (.cells c ⟨true, 1, false, false⟩)) := by rw [hy]; exact sealV_bytes hb hc
      have hi2 : ∀ (bs : List AB) (k : IntKind) (n : Int), sealV d bs (.int k n) = (.int k n, bs) := fun bs k n => by simp only [sealV]
      have hs2 : ∀ (bs : List AB) (n : List UInt8), sealV d bs (.str n) = (.str n, bs) := fun bs n => by simp only [sealV]
      simp only [sealVL, hl2, hd2, hi2, hs2]
    rw [sealVL_app, h1, sealVL_clean d _ (nodesA l) (nodesA_clean fun x hx => hl x (List.mem_cons_of_mem _ hx))]
  | x :: l, i + 1, y, hl, hi, hy, hyl => by
    show sealVL d bs (nodeA x ++ nodesA (l.set i y)) = (nodeA x ++ nodesA (l.set i { y with data := .sl c z true }), _)
    rw [sealVL_app, sealVL_clean d bs (nodeA x) (nodeA_clean (hl x (List.mem_cons_self ..)).1 (hl x (List.mem_cons_self ..)).2), sealVL_one hb hc l i y (fun x hx => hl x (List.mem_cons_of_mem _ hx)) (by simpa using hi) hy hyl]
theorem deeds_d (s : SetS) (ss sn : Int) (d d' : AV) (x : NodeS) (h : s.hs = false) : deeds s ss sn d x = deeds s ss sn d' x := by
  unfold deeds deed4
  rw [h, if_neg (by decide), if_neg (by decide)]
theorem deeds_with (s : SetS) (ss sn : Int) (d d' : AV) (x : NodeS) (h : s.hs = true) : { deeds s ss sn d x with data := d' } = deeds s ss sn d' x ∧ (deeds s ss sn d x).data = d := by
  unfold deeds deed4
  rw [if_pos h, if_pos h]
  generalize deed3 s ss sn (deed2 s ss sn (deed1 s ss sn x)) = y
  unfold deed6 deed5
  cases (s.wh == 2) <;> cases (s.wh == 1) <;> cases (s.rh == 2) <;> cases (s.rh == 1) <;> exact ⟨rfl, rfl⟩
theorem deeds_list (s : SetS) (ss sn : Int) (d : AV) (x : NodeS) : (deeds s ss sn d x).list = x.list := by
  simp only [deeds, deed6, deed5, deed4, deed3, deed2, deed1, apply_ite NodeS.list, ite_self]
theorem deeds_data (s : SetS) (ss sn : Int) (d : AV) (x : NodeS) : (deeds s ss sn d x).data = if s.hs = true then d else x.data := by
  simp only [deeds, deed6, deed5, deed4, deed3, deed2, deed1, apply_ite NodeS.data, ite_self]
/-- What is set of a node's tree. -/
def setN (ns : List NodeS) (n : Int) (s : SetS) (ss sn : Int) (x : NodeS) : List NodeS := (ns.map cloneN).set n.toNat (deeds s ss sn (.sl (numsA .u8 (sized x.bytes s.size.toNat)) s.size.toNat true) (cloneN x))

end Go.Proofs.Ytnfkpnfafekflaa.Ab
/- Over the engine: a tree that may be stays one, whatever is set of a node. -/
namespace Go.Proofs.Ytnfkpnfafekflaa.Ab
open Go Go.RowKit

/-- What each node of a tree that may be has. -/
theorem node_facts {ns : List NodeS} {tg : Int} {x : NodeS} (h : checkS ns tg = true) (hx : x ∈ ns) (hk : (x.kind != 0) = true) : x.mode ≤ 4095 ∧ x.rn < 1000000000 ∧ x.wn < 1000000000 ∧ x.tn < 1000000000 := by
  obtain ⟨_, _, c, h1, _⟩ := checkS_has h
  have key : (decide (x.mode > 4095) || (!decide (x.rn < 1000000000) || (!decide (x.wn < 1000000000) || !decide (x.tn < 1000000000)))) = false := by
    cases hq : (decide (x.mode > 4095) || (!decide (x.rn < 1000000000) || (!decide (x.wn < 1000000000) || !decide (x.tn < 1000000000)))) with
    | false => rfl
    | true =>
      have := pass1_bad (ns := ns) (tg := tg) ns 0 [] (cnt0 ns.length) ⟨x, hx, hk, fun g => by
        unfold nodeBad
        simp only [Bool.or_eq_true] at hq ⊢
        rcases hq with hq | hq | hq | hq
        · exact .inr (.inr (.inl hq))
        · exact .inr (.inr (.inr (.inl hq)))
        · exact .inr (.inr (.inr (.inr (.inl hq))))
        · exact .inr (.inr (.inr (.inr (.inr (.inl hq)))))⟩
      rw [this] at h1
      cases h1
  simp only [Bool.or_eq_false_iff, Bool.not_eq_false', decide_eq_false_iff_not, decide_eq_true_eq] at key
  obtain ⟨k1, k2, k3, k4⟩ := key
  exact ⟨by omega, k2, k3, k4⟩
theorem fileO_like {x y : NodeS} (h1 : y.bytes = x.bytes) (h2 : y.verf = x.verf) : fileO y = fileO x := by
  unfold fileO zeroVerf
  rw [h1, h2]
theorem listO_like {x y : NodeS} (h1 : y.ents = x.ents) (h2 : y.parent = x.parent) (h3 : y.next = x.next) : listO y = listO x := by
  unfold listO
  rw [h1, h2, h3]
/-- What is set keeps a node what it is. -/
theorem only_deeds {s : SetS} {ss sn : Int} {d : AV} {x : NodeS} {w : Bool} (ho : onlyS x = true) (hk : (x.kind != 0) = true) (hz : sizeB x s w = 0) (h0 : 0 ≤ s.size) : onlyS (deeds s ss sn d (cloneN x)) = true := by
  have hl : listO (deeds s ss sn d (cloneN x)) = listO x := listO_like (by rw [deeds_ents]; rfl) (by rw [deeds_parent]; rfl) (by rw [deeds_next]; rfl)
  have e1 : (deeds s ss sn d (cloneN x)).kind = x.kind := by rw [deeds_kind]; rfl
  have e2 : (deeds s ss sn d (cloneN x)).target = x.target := by rw [deeds_target]; rfl
  have hk0 : (x.kind == 0) = false := by simpa [bne] using hk
  unfold onlyS at ho ⊢
  rw [hl, e1, e2, hk0]
  rw [hk0] at ho
  rw [if_neg (fun h => Bool.noConfusion h)] at ho ⊢
  cases hs : s.hs with
  | false =>
    have hb : (deeds s ss sn d (cloneN x)).bytes = x.bytes := by
      rw [deeds_bytes, hs]
      rfl
    rw [fileO_like hb (by rw [deeds_verf]; rfl), hb]
    exact ho
  | true =>
    unfold sizeB at hz
    rw [hs] at hz
    cases h2 : (x.kind == 2) with
    | true => rw [h2] at hz; simp at hz
    | false =>
      cases h5 : (x.kind == 5) with
      | true => rw [h2, h5] at hz; simp at hz
      | false =>
        rw [h5, h2] at ho
        cases h1 : (x.kind == 1) with
        | false => rw [h1] at ho; simp at ho
        | true =>
          rw [h1, if_pos rfl] at ho
          rw [if_pos rfl]
          simp only [Bool.and_eq_true] at ho ⊢
          refine ⟨ho.1, ho.2.1, ?_⟩
          have hsm : s.size ≤ 65536 := by
            cases h6 : decide (s.size > 65536) with
            | true => rw [h2, h5, h6] at hz; simp at hz
            | false => have := of_decide_eq_false h6; omega
          rw [deeds_bytes, hs, if_pos rfl, sized_len]
          exact decide_eq_true (by omega)
theorem there_kind {ns : List NodeS} {n : Int} {x : NodeS} (hn : thereS ns n = true) (hx : ns[n.toNat]? = some x) : (x.kind != 0) = true := by
  unfold thereS kindS at hn
  rw [hx] at hn
  simp only [Bool.and_eq_true] at hn
  exact hn.2.2
/-- A tree that may be stays one. -/
theorem setN_check {ns : List NodeS} {tg n : Int} {s : SetS} {ss sn : Int} {x : NodeS} {w : Bool} (h : checkS ns tg = true) (hn : thereS ns n = true) (hx : ns[n.toNat]? = some x) (e1 : formS s sn = 0) (e3 : sizeB x s w = 0) (h0 : 0 ≤ s.size) : checkS (setN ns n s ss sn x) tg = true := by
  have hm := List.mem_of_getElem? hx
  have hk := there_kind hn hx
  obtain ⟨k1, k2, k3, k4⟩ := node_facts h hm hk
  have ho : onlyS x = true := by
    obtain ⟨_, ha, _⟩ := checkS_has h
    cases ho : onlyS x with
    | true => rfl
    | false => rw [anyBad_of hm ho] at ha; cases ha
  unfold setN
  exact checkS_turn (x := cloneN x) (by rw [checkS_clone]; exact h) (by rw [List.getElem?_map, hx]; rfl) (deeds_turned e1 k1 k2 k3 k4) (only_deeds ho hk e3 h0)
/-- All other nodes stay. -/
theorem setN_other {ns : List NodeS} {n : Int} {s : SetS} {ss sn : Int} {x y : NodeS} {i : Nat} (hi : i ≠ n.toNat) (hy : ns[i]? = some y) : (setN ns n s ss sn x)[i]? = some (cloneN y) := by
  unfold setN
  rw [List.getElem?_set_ne (fun h => hi h.symm), List.getElem?_map, hy]
  rfl
end Go.Proofs.Ytnfkpnfafekflaa.Ab
/- Over the engine: what a tree that may be is found by, in plain words. -/
namespace Go.Proofs.Ytnfkpnfafekflaa.Ab
open Go Go.RowKit

theorem byteS_eq {n : Int} (h0 : 0 ≤ n) (h1 : n < 4294967296) (s : Nat) : byteS (IntKind.wrap .u64 n) s = n / 2 ^ s % 256 := by
  unfold byteS
  rw [IntKind.wrap_u64, IntKind.wrap_u8, Int.emod_eq_of_lt h0 (by omega), Int.fdiv_eq_ediv_of_nonneg _ (Int.le_of_lt (Int.pow_pos (by decide)))]
theorem or32_low {k c : Int} (hk : 0 ≤ k) (hk2 : k < 16777216) (hc : 0 ≤ c) (hc2 : c < 256) : or32 (k * 256) c = k * 256 + c := by
  unfold or32
  rw [BitVec.toNat_or, BitVec.toNat_ofInt, BitVec.toNat_ofInt, IntKind.wrap_u32]
  have e1 : (k * 256 % ((2 ^ 32 : Nat) : Int)).toNat = 2 ^ 8 * k.toNat := by
    rw [show ((2 ^ 32 : Nat) : Int) = 4294967296 from rfl]
    omega
  have e2 : (c % ((2 ^ 32 : Nat) : Int)).toNat = c.toNat := by
    rw [show ((2 ^ 32 : Nat) : Int) = 4294967296 from rfl]
    omega
  rw [e1, e2, ← Nat.two_pow_add_eq_or_of_lt (by omega) k.toNat]
  omega
theorem join32_eq {x c : Int} (hx : 0 ≤ x) (hx2 : x < 16777216) (hc : 0 ≤ c) (hc2 : c < 256) : join32 x c = x * 256 + c := by
  unfold join32
  rw [IntKind.wrap_u32, IntKind.wrap_u32, show ((2 : Int) ^ 8) = 256 from rfl, Int.emod_eq_of_lt (by omega) (by omega), Int.emod_eq_of_lt hc (by omega)]
  exact or32_low hx hx2 hc hc2
theorem get4_eq {a b c d : Int} (ha : 0 ≤ a ∧ a < 256) (hb : 0 ≤ b ∧ b < 256) (hc : 0 ≤ c ∧ c < 256) (hd : 0 ≤ d ∧ d < 256) : get4 a b c d = ((a * 256 + b) * 256 + c) * 256 + d := by
  unfold get4
  rw [join32_eq (x := 0) (by omega) (by omega) ha.1 ha.2, join32_eq (by omega) (by omega) hb.1 hb.2, join32_eq (by omega) (by omega) hc.1 hc.2, join32_eq (by omega) (by omega) hd.1 hd.2]
  omega
/-- A number put is got. -/
theorem get4_put {n : Int} (h0 : 0 ≤ n) (h1 : n < 4294967296) : get4 (byteS (IntKind.wrap .u64 n) 24) (byteS (IntKind.wrap .u64 n) 16) (byteS (IntKind.wrap .u64 n) 8) (byteS (IntKind.wrap .u64 n) 0) = n := by
  rw [byteS_eq h0 h1, byteS_eq h0 h1, byteS_eq h0 h1, byteS_eq h0 h1]
  rw [show (2 : Int) ^ 24 = 16777216 from rfl, show (2 : Int) ^ 16 = 65536 from rfl, show (2 : Int) ^ 8 = 256 from rfl, show (2 : Int) ^ 0 = 1 from rfl]
  rw [get4_eq (by omega) (by omega) (by omega) (by omega)]
  omega
/-- A handle put is got. -/
theorem getHS_put {n g : Int} (h0 : 1 ≤ n) (h1 : n ≤ 1024) (h2 : 0 ≤ g) (h3 : g < 4294967296) : getHS (bytesS n g) = some (n, g) := by
  have e1 := get4_put (n := n) (by omega) (by omega)
  have e2 := get4_put (n := g) h2 h3
  have hb := bytesS n g
  show (if (get4 (byteS (IntKind.wrap .u64 n) 24) (byteS (IntKind.wrap .u64 n) 16) (byteS (IntKind.wrap .u64 n) 8) (byteS (IntKind.wrap .u64 n) 0) < 1 || (get4 (byteS (IntKind.wrap .u64 n) 24) (byteS (IntKind.wrap .u64 n) 16) (byteS (IntKind.wrap .u64 n) 8) (byteS (IntKind.wrap .u64 n) 0) > 1024 || !eqL (bytesS (get4 (byteS (IntKind.wrap .u64 n) 24) (byteS (IntKind.wrap .u64 n) 16) (byteS (IntKind.wrap .u64 n) 8) (byteS (IntKind.wrap .u64 n) 0)) (get4 (byteS (IntKind.wrap .u64 g) 24) (byteS (IntKind.wrap .u64 g) 16) (byteS (IntKind.wrap .u64 g) 8) (byteS (IntKind.wrap .u64 g) 0))) (bytesS n g))) = true then none else some (get4 (byteS (IntKind.wrap .u64 n) 24) (byteS (IntKind.wrap .u64 n) 16) (byteS (IntKind.wrap .u64 n) 8) (byteS (IntKind.wrap .u64 n) 0), get4 (byteS (IntKind.wrap .u64 g) 24) (byteS (IntKind.wrap .u64 g) 16) (byteS (IntKind.wrap .u64 g) 8) (byteS (IntKind.wrap .u64 g) 0))) = _
  rw [e1, e2, (eqL_iff _ _).2 rfl, show decide (n < 1) = false from decide_eq_false (by omega), show decide (n > 1024) = false from decide_eq_false (by omega)]
  rfl
theorem bytesS_len (n g : Int) : (bytesS n g).length = 16 := rfl
theorem bytesS_inj {n g n' g' : Int} (h0 : 1 ≤ n) (h1 : n ≤ 1024) (h2 : 0 ≤ g) (h3 : g < 4294967296) (h0' : 1 ≤ n') (h1' : n' ≤ 1024) (h2' : 0 ≤ g') (h3' : g' < 4294967296) (h : bytesS n g = bytesS n' g') : n = n' := by
  have e := getHS_put h0 h1 h2 h3
  rw [h, getHS_put h0' h1' h2' h3'] at e
  cases e
  rfl
/-- Bytes as a text. -/
def keyS (l : List Int) : List UInt8 := l.map fun b => UInt8.ofNat b.toNat
theorem keyS_inj : ∀ {x y : List Int}, (∀ b ∈ x, 0 ≤ b ∧ b < 256) → (∀ b ∈ y, 0 ≤ b ∧ b < 256) → keyS x = keyS y → x = y
  | [], [], _, _, _ => rfl
  | [], _ :: _, _, _, h => by simp [keyS] at h
  | _ :: _, [], _, _, h => by simp [keyS] at h
  | a :: x, b :: y, hx, hy, h => by
    simp only [keyS, List.map_cons, List.cons.injEq] at h
    have ha := hx a (List.mem_cons_self ..)
    have hb := hy b (List.mem_cons_self ..)
    have e : a.toNat % 256 = b.toNat % 256 := by
      have := congrArg UInt8.toNat h.1
      simpa using this
    have r := keyS_inj (fun b hb => hx b (List.mem_cons_of_mem _ hb)) (fun b hb => hy b (List.mem_cons_of_mem _ hb)) h.2
    rw [r, show a = b by omega]
theorem byteS_range (n : Int) (s : Nat) : 0 ≤ byteS n s ∧ byteS n s < 256 := by
  unfold byteS
  rw [IntKind.wrap_u8]
  omega
theorem be4_range (n : Int) : ∀ b ∈ be4 n, 0 ≤ b ∧ b < 256 := by
  intro b hb
  simp only [be4, List.mem_cons, List.not_mem_nil, or_false] at hb
  rcases hb with rfl | rfl | rfl | rfl <;> exact byteS_range ..
theorem bytesS_range (n g : Int) : ∀ b ∈ bytesS n g, 0 ≤ b ∧ b < 256 := by
  intro b hb
  simp only [bytesS, headS, List.mem_append] at hb
  rcases hb with (hb | hb | hb) | hb
  · simp only [List.mem_cons, List.not_mem_nil, or_false] at hb
    omega
  · exact be4_range _ b hb
  · exact be4_range _ b hb
  · exact be4_range _ b hb
/-! A tree that may be. -/
section
variable {ns : List NodeS} {tg : Int}
theorem node_ents {x : NodeS} (h : checkS ns tg = true) (hx : x ∈ ns) (hk : (x.kind != 0) = true) : (x.kind == 2) = true → entriesS ns x = true := by
  intro h2
  obtain ⟨_, _, c, h1, _⟩ := checkS_has h
  cases he : entriesS ns x with
  | true => rfl
  | false =>
    have := pass1_bad (ns := ns) (tg := tg) ns 0 [] (cnt0 ns.length) ⟨x, hx, hk, fun g => by
      unfold nodeBad
      rw [he, h2]
      simp⟩
    rw [this] at h1
    cases h1
theorem node_only {x : NodeS} (h : checkS ns tg = true) (hx : x ∈ ns) : onlyS x = true := by
  obtain ⟨_, ha, _⟩ := checkS_has h
  cases ho : onlyS x with
  | true => rfl
  | false => rw [anyBad_of hx ho] at ha; cases ha
theorem check_pre (h : checkS ns tg = true) : 2 ≤ ns.length ∧ ns.length ≤ 1025 ∧ kindS ns 0 = 0 ∧ dirS ns 1 = true := by
  obtain ⟨hp, _⟩ := checkS_has h
  unfold preBad at hp
  simp only [Bool.or_eq_false_iff, decide_eq_false_iff_not, Bool.not_eq_false'] at hp
  obtain ⟨h1, h2, h3, h4, _⟩ := hp
  refine ⟨by omega, by omega, ?_, h4⟩
  simpa [bne] using h3
/-- Each directory lies within the root. -/
theorem check_within (h : checkS ns tg = true) {n : Nat} {x : NodeS} (hx : ns[n]? = some x) (hk : (x.kind == 2) = true) (hn : 1 ≤ n) : withinS ns 1 (ns.length + 1) n = true := by
  by_cases h1 : n = 1
  · subst h1
    have := (check_pre h).2.2.2
    rw [withinS]
    rw [if_pos (show dirS ns ((1 : Nat) : Int) = true from this)]
    rfl
  · obtain ⟨_, _, c, _, h2⟩ := checkS_has h
    have hk0 : (x.kind != 0) = true := by
      have : x.kind = 2 := by simpa using hk
      rw [this]
      rfl
    have hb := pass2_good ns 0 n x h2 hx hk0
    unfold nodeBad2 at hb
    rw [hk, if_pos rfl] at hb
    simp only [Bool.or_eq_false_iff, Bool.and_eq_false_iff, decide_eq_false_iff_not, Bool.not_eq_false'] at hb
    rcases hb.2 with hb | hb
    · omega
    · have := hb.2.2
      rwa [show (0 + (n : Int)) = n by omega] at this
end
/-- Entries' names differ. -/
theorem ents_named {ns : List NodeS} {nx : Int} : ∀ (l prev : List EntryS) (la : Int), entsBad ns nx prev la l = false → ∀ e ∈ l, isNamed prev e.name = false ∧ (e.name == [46]) = false ∧ (e.name == [46, 46]) = false
  | [], _, _, _, e, he => by cases he
  | a :: r, prev, la, h, e, he => by
    rw [entsBad, Bool.or_eq_false_iff] at h
    have h1 := h.1
    unfold entBad at h1
    simp only [Bool.or_eq_false_iff] at h1
    rcases List.mem_cons.1 he with rfl | he
    · exact ⟨h1.2.2.1, h1.2.2.2.2.1, h1.2.2.2.2.2.1⟩
    · obtain ⟨k1, k2, k3⟩ := ents_named r _ _ h.2 e he
      refine ⟨?_, k2, k3⟩
      unfold isNamed at k1 ⊢
      rw [List.any_append, Bool.or_eq_false_iff] at k1
      exact k1.1
theorem ents_find {ns : List NodeS} {nx : Int} : ∀ (l prev : List EntryS) (la : Int), entsBad ns nx prev la l = false → ∀ e ∈ l, ∃ e', l.find? (fun x => x.name == e.name) = some e' ∧ e'.node = e.node
  | [], _, _, _, e, he => by cases he
  | a :: r, prev, la, h, e, he => by
    rw [entsBad, Bool.or_eq_false_iff] at h
    rcases List.mem_cons.1 he with rfl | he
    · exact ⟨e, by rw [List.find?_cons, beq_self_eq_true], rfl⟩
    · have hn := (ents_named r _ _ h.2 e he).1
      unfold isNamed at hn
      rw [List.any_append, Bool.or_eq_false_iff] at hn
      have hne : (a.name == e.name) = false := by
        have := hn.2
        simp only [List.any_cons, List.any_nil, Bool.or_false] at this
        rw [beq_eq_false_iff_ne] at this ⊢
        exact fun h => this h.symm
      rw [List.find?_cons, hne]
      exact ents_find r _ _ h.2 e he
/-- Each entry leads to its node. -/
theorem check_entry {ns : List NodeS} {tg : Int} (h : checkS ns tg = true) {n : Nat} {x : NodeS} (hx : ns[n]? = some x) (hn : thereS ns n = true) {e : EntryS} (he : e ∈ x.ents) : entryS ns n e.name = e.node := by
  have hm := List.mem_of_getElem? hx
  have hk : (x.kind != 0) = true := there_kind hn (by simpa using hx)
  have ho := node_only h hm
  cases h2 : (x.kind == 2) with
  | false =>
    rw [only_list ho h2] at he
    cases he
  | true =>
    have hen := node_ents h hm hk h2
    unfold entriesS at hen
    rw [Bool.and_eq_true, Bool.not_eq_true', Bool.not_eq_true'] at hen
    obtain ⟨_, k2, k3⟩ := ents_named _ _ _ hen.2 e he
    obtain ⟨e', k4, k5⟩ := ents_find _ _ _ hen.2 e he
    have hd : dirS ns n = true := by
      unfold dirS kindS
      rw [hn]
      simp only [Int.toNat_natCast, hx, Bool.true_and]
      exact h2
    have hea : entsAt ns n = x.ents := by
      unfold entsAt
      simp only [Int.toNat_natCast, hx]
    unfold entryS
    rw [if_pos hd, if_neg (by rw [k2]; exact Bool.noConfusion), if_neg (by rw [k3]; exact Bool.noConfusion), hea, k4]
    exact k5
/-- The handles of the nodes ahead of one. -/
def handleK (ns : List NodeS) (n : Nat) : List Int := bytesS (IntKind.wrap .u32 n) (genS ns n)
def keysTo (ns : List NodeS) : Nat → List EntryS
  | 0 => []
  | n + 1 => if thereS ns n = true then keysTo ns n ++ [⟨keyS (handleK ns n), 0, 0⟩] else keysTo ns n
theorem keysTo_mem {ns : List NodeS} : ∀ (n : Nat) (e : EntryS), e ∈ keysTo ns n → ∃ k, k < n ∧ thereS ns k = true ∧ e.name = keyS (handleK ns k)
  | 0, e, h => by cases h
  | n + 1, e, h => by
    rw [keysTo] at h
    split at h
    · rename_i ht
      rcases List.mem_append.1 h with h | h
      · obtain ⟨k, h1, h2⟩ := keysTo_mem n e h
        exact ⟨k, by omega, h2⟩
      · rw [List.mem_singleton] at h
        subst h
        exact ⟨n, by omega, ht, rfl⟩
    · obtain ⟨k, h1, h2⟩ := keysTo_mem n e h
      exact ⟨k, by omega, h2⟩
theorem genS_range {ns : List NodeS} (hr : ∀ x ∈ ns, x.rng) {n : Nat} : 0 ≤ genS ns n ∧ genS ns n < 4294967296 := by
  unfold genS
  split
  · rename_i x hx
    exact (hr x (List.mem_of_getElem? hx)).gen
  · omega
/-- No handle stands for two nodes. -/
theorem keysTo_new {ns : List NodeS} (hr : ∀ x ∈ ns, x.rng) (hl : ns.length ≤ 1025) {n : Nat} (hn : thereS ns n = true) : isNamed (keysTo ns n) (keyS (handleK ns n)) = false := by
  unfold isNamed
  rw [List.any_eq_false]
  intro e he
  obtain ⟨k, h1, h2, h3⟩ := keysTo_mem n e he
  rw [h3]
  intro hq
  have hq : keyS (handleK ns n) = keyS (handleK ns k) := by simpa using hq
  have hq := keyS_inj (bytesS_range _ _) (bytesS_range _ _) hq
  obtain ⟨a1, a2, _⟩ := there_facts hn
  obtain ⟨b1, b2, _⟩ := there_facts h2
  have e1 : IntKind.wrap .u32 (n : Int) = n := wrapu32 (by omega) (by omega)
  have e2 : IntKind.wrap .u32 (k : Int) = k := wrapu32 (by omega) (by omega)
  unfold handleK at hq
  rw [e1, e2] at hq
  have := bytesS_inj (by omega) (by omega) (genS_range hr).1 (genS_range hr).2 (by omega) (by omega) (genS_range hr).1 (genS_range hr).2 hq
  omega
end Go.Proofs.Ytnfkpnfafekflaa.Ab
