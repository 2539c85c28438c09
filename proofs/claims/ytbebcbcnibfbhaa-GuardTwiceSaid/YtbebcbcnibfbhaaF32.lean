import Derived.Test.YtbebcbcnibfbhaaF30
/- Over the engine: more operations with letters; what is handed back, by lemmas. -/
namespace Go.Proofs.Ytbebcbcnibfbhaa.Ab
open Go Go.RowKit

theorem splice_nil : ∀ (c : List AV) (k : Nat), splice c k [] = c
  | [], _ => rfl
  | _ :: _, 0 => rfl
  | x :: c, k + 1 => by simp only [splice, splice_nil c k]
theorem splice_left : ∀ (a b : List AV) (k : Nat) (vs : List AV), k + vs.length ≤ a.length → splice (a ++ b) k vs = splice a k vs ++ b
  | [], b, 0, [], _ => by cases b <;> rfl
  | [], b, k, v :: vs, h => by simp at h
  | [], b, k + 1, [], h => by simp at h
  | x :: a, b, 0, [], _ => rfl
  | x :: a, b, 0, v :: vs, h => by
    have := splice_left a b 0 vs (by simp at h ⊢; omega)
    simp only [List.cons_append, splice, this]
  | x :: a, b, k + 1, vs, h => by
    have := splice_left a b k vs (by simp at h ⊢; omega)
    simp only [List.cons_append, splice, this]
theorem splice_right : ∀ (a b : List AV) (k : Nat) (vs : List AV), splice (a ++ b) (a.length + k) vs = a ++ splice b k vs
  | [], b, k, vs => by simp
  | x :: a, b, k, vs => by
    rw [List.length_cons, show a.length + 1 + k = (a.length + k) + 1 by omega, List.cons_append]
    simp only [splice, splice_right a b k vs, List.cons_append]
theorem splice_rows {α : Type} {f : α → List AV} {z : Nat} (hf : ∀ x, (f x).length = z) : ∀ {l : List α} {i : Nat} {x x' : α} {k : Nat} {vs : List AV}, l[i]? = some x → k + vs.length ≤ z → splice (f x) k vs = f x' → splice (l.map f).flatten (i * z + k) vs = ((l.set i x').map f).flatten
  | [], i, x, x', k, vs, h, _, _ => by simp at h
  | y :: l, 0, x, x', k, vs, h, hk, he => by
    simp at h
    subst h
    rw [List.map_cons, List.flatten_cons, Nat.zero_mul, Nat.zero_add, splice_left _ _ _ _ (by rw [hf]; exact hk), he]
    rfl
  | y :: l, i + 1, x, x', k, vs, h, hk, he => by
    simp at h
    rw [List.map_cons, List.flatten_cons, show (i + 1) * z + k = (f y).length + (i * z + k) by rw [hf, Nat.add_mul]; omega, splice_right, splice_rows hf h hk he]
    rfl
theorem splice_nodes {ns : List NodeS} {i : Nat} {x x' : NodeS} {k : Nat} {vs : List AV} (hx : ns[i]? = some x) (hk : k + vs.length ≤ 25) (he : splice (nodeA x) k vs = nodeA x') : splice (nodesA ns) (i * 25 + k) vs = nodesA (ns.set i x') := splice_rows nodeA_len hx hk he

section
variable {P : Program} {flat : TypeId → Option (List Nat)} {nid : Nat} {ρ : Operand → AV}
/-- An append to an empty row. -/
theorem runK_append_new {t u e e' : TypeId} {sz by_ : Nat} {zc : List AV} {a x : Operand} {b n : Nat} {cells c : List AV} {tt : Bool} {i : BI} {h : List AB} {K : List RL → AV → WL → Prop} (ht : P.underlying t = some (.slice e)) (hu : P.underlying u = some (.slice e')) (hs : szOf P e = some sz) (hb : bytesA P e = some by_) (hz : zeroCellsA P e = some zc)
    (ha : ρ a = .rsl b 0 0 (some 0) 0) (hx : ρ x = .sl cells n tt) (hbb : h[b]? = some (.cells c i)) (hver : 0 = verA i c.length) (hn : 0 < n) (hl : cells.length = n * sz) (h1 : n ≤ 140737488355328) (h2 : n * by_ ≤ 140737488355328) (h3 : 0 < sz) (h4 : zc.length = sz)
    (hk : K [.info b, .cells b 0 (0 * sz)] (.rsl nid 0 n none (cells.length + 1)) (.new (.cells cells ⟨plainL zc, sz, true, true⟩))) : runK (evOp P flat nid (.call { callee := .builtin .append, args := #[a, x], argTypes := #[t, u] }) ρ) h K := by
  simp only [evOp, builtinA, List.map_cons, List.map_nil, appendA, ht, hs, hb, hz, ha, hx, newCells, List.head?_cons, hu, lenOfA, sliceCells, Option.getD_some]
  have e1 : (if True ∧ cells.length = n * sz then cells else cells.take (n * sz)) = cells := if_pos ⟨trivial, hl⟩
  simp only [e1]
  rw [if_pos ⟨Nat.le_refl _, by omega⟩, if_pos ⟨by omega, by rw [Nat.zero_add]; exact h2, h3, h4⟩]
  unfold runK
  simp only [hbb]
  rw [if_pos hver, if_neg (by omega)]
  unfold runK
  simp only [hbb]
  rw [if_pos (by omega)]
  refine runK_ret (v := .rsl nid 0 n none (cells.length + 1)) (w := .new (.cells cells ⟨plainL zc, sz, true, true⟩)) ?_ hk
  simp [cleanL]
theorem ev_clip {t e : TypeId} {sz n : Nat} {a hi mx : Operand} {cells : List AV} {tt : Bool} {k k' : IntKind} (ht : P.underlying t = some (.slice e)) (hs : szOf P e = some sz) (ha : ρ a = .sl cells n tt) (hh : ρ hi = .int k n) (hm : ρ mx = .int k' n) (hl : cells.length = n * sz) :
    evOp P flat nid (.slice t a none (some hi) (some mx)) ρ = .ret (.sl cells n true, .none) := by
  simp only [evOp, sliceA, ht, ha, hs, Option.map_some, Option.map_none, boundsA, boundA, hh, hm]
  rw [if_pos ⟨by omega, by omega⟩]
  simp only [Int.toNat_natCast]
  rw [if_pos ⟨by omega, by omega⟩]
  simp only [Nat.le_refl, and_self, if_true, hl, tightS, Int.toNat_natCast, decide_true, Nat.sub_zero]
end
theorem splice_all : ∀ (c vs : List AV), c.length = vs.length → splice c 0 vs = vs
  | [], [], _ => rfl
  | [], _ :: _, h => by simp at h
  | _ :: _, [], h => by simp at h
  | x :: c, v :: vs, h => by simp only [splice, splice_all c vs (by simpa using h)]
section
variable {P : Program} {flat : TypeId → Option (List Nat)} {nid : Nat} {ρ : Operand → AV}
/-- A copy of a whole row. -/
theorem runK_copy_all {t u e : TypeId} {sz : Nat} {a x : Operand} {b n : Nat} {cap : Option Nat} {cells c : List AV} {tt : Bool} {i : BI} {h : List AB} {K : List RL → AV → WL → Prop} (ht : P.underlying t = some (.slice e)) (hs : szOf P e = some sz)
    (ha : ρ a = .rsl b 0 n cap 0) (hx : ρ x = .sl cells n tt) (hbb : h[b]? = some (.cells c i)) (hver : 0 = verA i c.length) (hw : i.wr = true) (hl : cells.length = n * sz) (hc : c.length = n * sz)
    (hk : K [.info b] (.int .i64 n) (.put b 0 cells)) : runK (evOp P flat nid (.call { callee := .builtin .copy, args := #[a, x], argTypes := #[t, u] }) ρ) h K := by
  simp only [evOp, builtinA, List.map_cons, List.map_nil, copyA, ht, hs, ha, hx, lenOfA, sliceCells, Nat.min_self]
  have e1 : (if True ∧ cells.length = n * sz then cells else cells.take (n * sz)) = cells := if_pos ⟨trivial, hl⟩
  simp only [e1]
  rw [if_pos ⟨Nat.le_refl _, by omega⟩]
  unfold runK
  simp only [hbb]
  rw [if_pos ⟨hver, hw, by omega, .inr trivial⟩]
  exact runK_ret rfl hk
end
section
variable {P : Program} {flat : TypeId → Option (List Nat)} {nid : Nat} {ρ : Operand → AV}
theorem ev_makeN {t e : TypeId} {sz by_ : Nat} {z cs : List AV} {a b : Operand} {k k' : IntKind} {n : Nat} (ht : P.underlying t = some (.slice e)) (hs : szOf P e = some sz) (hb : bytesA P e = some by_) (hz : zeroCellsA P e = some z) (ha : ρ a = .int k n) (hy : ρ b = .int k' n)
    (h2 : n ≤ 140737488355328) (h3 : by_ * n ≤ 140737488355328) (h4 : z.length = sz) (h5 : 0 < sz) (h6 : oneL z = true) (hcs : repCells n z = cs) :
    evOp P flat nid (.makeSlice t a b) ρ = .ret (.rsl nid 0 n (some n) 0, .new (.cells cs ⟨cleanL z && plainL z, sz, false, true⟩)) := by
  rw [ev_makeSlice ht hs hb hz ha hy (by omega) (by omega) (by omega) (by have : (by_ * (n : Int)) = ((by_ * n : Nat) : Int) := by rw [Int.natCast_mul]
                                                                          omega) h4 h5 h6, Int.toNat_natCast, hcs]
end
section
variable {P : Program} {flat : TypeId → Option (List Nat)} {nid : Nat} {ρ : Operand → AV}
theorem ev_box {t : TypeId} {x : Operand} {c : List AV} (hx : (ρ x).toCells = some c) (ho : oneL c = true) : evOp P flat nid (.box t x) ρ = .ret (.ref nid 0 0, .new (.cells c ⟨false, 0, false, true⟩)) := by
  simp only [evOp, hx, ho, if_true]
/-- A copy of as much as fits. -/
theorem runK_copy_part {t u e : TypeId} {a x : Operand} {b n m : Nat} {cap : Option Nat} {cells c : List AV} {tt : Bool} {i : BI} {h : List AB} {K : List RL → AV → WL → Prop} (ht : P.underlying t = some (.slice e)) (hs : szOf P e = some 1)
    (ha : ρ a = .rsl b 0 m cap 0) (hx : ρ x = .sl cells n tt) (hbb : h[b]? = some (.cells c i)) (hver : 0 = verA i c.length) (hw : i.wr = true) (hl : cells.length = n) (hc : c.length = m)
    (hk : K [.info b] (.int .i64 (min n m : Nat)) (.put b 0 (cells.take (min n m)))) : runK (evOp P flat nid (.call { callee := .builtin .copy, args := #[a, x], argTypes := #[t, u] }) ρ) h K := by
  simp only [evOp, builtinA, List.map_cons, List.map_nil, copyA, ht, hs, ha, hx, lenOfA, sliceCells, Nat.mul_one]
  have e1 : (if min n m = n ∧ cells.length = min n m then cells else cells.take (min n m)) = cells.take (min n m) := by
    split
    · rename_i h
      rw [List.take_of_length_le (by omega)]
    · rfl
  simp only [e1]
  rw [if_pos ⟨Nat.min_le_left _ _, by omega⟩]
  unfold runK
  simp only [hbb]
  rw [if_pos ⟨hver, hw, by omega, .inr trivial⟩]
  exact runK_ret rfl hk
theorem runK_copy_letter {t u e : TypeId} {a x : Operand} {b n m : Nat} {cap : Option Nat} {cells c : List AV} {tt : Bool} {i : BI} {h : List AB} {K : List RL → AV → WL → Prop} (ht : P.underlying t = some (.slice e)) (hs : szOf P e = some 1)
    (ha : ρ a = .rsl b 0 m cap 0) (hx : ρ x = .sl cells n tt) (hbb : h[b]? = some (.cells c i)) (hver : 0 = verA i c.length) (hw : i.wr = true) (hl : cells.length = n) (hc : c.length = m)
    (hk : ∀ cs (k : Int), cs = cells.take (min n m) → K [.info b] (.int .i64 k) (.put b 0 cs)) : runK (evOp P flat nid (.call { callee := .builtin .copy, args := #[a, x], argTypes := #[t, u] }) ρ) h K :=
  runK_copy_part ht hs ha hx hbb hver hw hl hc (hk _ _ rfl)
theorem runK_copy_nil {t u e : TypeId} {sz : Nat} {a x : Operand} {b m : Nat} {cap : Option Nat} {c : List AV} {i : BI} {h : List AB} {K : List RL → AV → WL → Prop} (ht : P.underlying t = some (.slice e)) (hs : szOf P e = some sz)
    (ha : ρ a = .rsl b 0 m cap 0) (hx : ρ x = .sl0) (hbb : h[b]? = some (.cells c i)) (hver : 0 = verA i c.length) (hw : i.wr = true)
    (hk : K [.info b] (.int .i64 0) (.put b 0 [])) : runK (evOp P flat nid (.call { callee := .builtin .copy, args := #[a, x], argTypes := #[t, u] }) ρ) h K := by
  simp only [evOp, builtinA, List.map_cons, List.map_nil, copyA, ht, hs, ha, hx, lenOfA, sliceCells, Nat.zero_min, if_true]
  unfold runK
  simp only [hbb]
  rw [if_pos ⟨hver, hw, by omega, .inr trivial⟩]
  exact runK_ret rfl hk
end
/-- What is handed back, when it is known how it is sealed. -/
theorem leaveA_of {n : Nat} {v v' : AV} {h : H} {bs' : List AB} (hs : v.seal h.bs = (v', bs')) (hu : v'.und n = true) (he : escOk n h.esc = true) : leaveA false n v h = (v', { bs := bs'.take n, esc := escCut n h.esc }) := by
  unfold leaveA
  simp only [hs, hu, he, Bool.false_eq_true, if_false, Bool.and_self, if_true]
theorem seal_rsl {bs : List AB} {b off n ver : Nat} {cap : Option Nat} {c : List AV} {i : BI} (hb : bs[b]? = some (.cells c i)) (hv : ver = verA i c.length) (hw : i.wr = true) (hcl : i.cl = true) (hl : off + n * i.sz ≤ c.length) (hz : 0 < i.sz) :
    AV.seal bs (.rsl b off n cap ver) = (.sl ((c.drop off).take (n * i.sz)) n (tightA cap n), bs.set b (.cells c { i with wr := false })) := argA_rsl hb hv hw hcl hl hz
/-- The end of a body, told by a letter. -/
def EndOk (P : Program) (fn : Func) (raw : Bool) (n : Nat) (K : AV → H → Prop) (End : AX → ST → Prop) : Prop :=
  ∀ (x : AX) (s : ST) (vs : List AV) (v' : AV) (h' : H), (x = .normal ∨ x = .ret) → resA P s fn.results.toList = some vs → leaveA raw n (asOne vs) s.h = (v', h') → K v' h' → End x s
theorem body_end {E : Env} {call : CallF} {jmp : JumpF} {raw : Bool} {f : FuncId} {fn : Func} {c : Code} {args : List AV} {h : H} {K : AV → H → Prop} (hn : args.length ≤ fn.ntmps)
    (hwp : ∀ End, EndOk E.P fn raw h.bs.length K End → putsK (RG.empty fn.ntmps) 0 args fun r => codeK E call f jmp false c ⟨r, h⟩ End) : ∃ v h', evBody E call jmp raw f fn c args h = some (.ret v, h') ∧ K v h' := by
  have hw := hwp (fun x s => ∃ vs v' h', (x = .normal ∨ x = .ret) ∧ resA E.P s fn.results.toList = some vs ∧ leaveA raw h.bs.length (asOne vs) s.h = (v', h') ∧ K v' h') (fun x s vs v' h' h1 h2 h3 h4 => ⟨vs, v', h', h1, h2, h3, h4⟩)
  rw [putsK_eq] at hw
  obtain ⟨x, s', h1, vs, v', h', h2, h3, h4, h5⟩ := codeK_sound _ _ _ _ _ _ hw
  refine ⟨v', h', ?_, h5⟩
  unfold evBody
  rw [if_pos hn]
  rcases h2 with rfl | rfl <;> simp only [h1, h3, h4]
/-- call_clean, with the end told by a letter. -/
theorem call_cleanE {E : Env} {n : Nat} {from_ f : FuncId} {fn : Func} {c : Code} {x y args : List AV} {v : AV} {h : H} (hok : E.ok f = true) (hf : E.P.funcs[f]? = some fn) (hb : fn.body = some c) (hraw : E.raw from_ f = false) (hcl : cleanL (x ++ args ++ y) = true) (hv : v.clean = true)
    (hsum : E.sum f (x ++ args ++ y) = none) (hn : (x ++ args ++ y).length ≤ fn.ntmps)
    (hwp : ∀ End, EndOk E.P fn false 0 (fun v' _ => v' = v) End → putsK (RG.empty fn.ntmps) 0 (x ++ args ++ y) fun r => codeK E (evAll E n).1 f (evAll E n).2 false c ⟨r, ⟨[], []⟩⟩ End) : evCall E (n + 1) from_ (.fn f x y) args h = some (.ret v, h) := by
  obtain ⟨v', h', hk, rfl⟩ := body_end (h := ⟨[], []⟩) hn hwp
  have hcl' : cleanL args = true := by
    rw [cleanL_app, cleanL_app, Bool.and_eq_true, Bool.and_eq_true] at hcl
    exact hcl.1.2
  show stepCall E (evAll E n).1 (evAll E n).2 from_ (.fn f x y) args h = _
  unfold stepCall
  simp only [hraw, argsA_clean args h.bs hcl', hok, hf, hb, hcl, hsum, hk, hv, Bool.false_eq_true, if_false, Bool.not_false, Bool.and_true, if_true]
/-- A function that was handed its first arguments before. -/
theorem call_bound {E : Env} {n : Nat} {from_ f : FuncId} {x : List AV} {h : H} (hcl : cleanL x = true) (hraw : E.raw from_ f = false) : evCall E (n + 1) from_ (.fn f x []) [] h = evCall E (n + 1) from_ (.fn f [] []) x h := by
  show stepCall E (evAll E n).1 (evAll E n).2 from_ (.fn f x []) [] h = stepCall E (evAll E n).1 (evAll E n).2 from_ (.fn f [] []) x h
  unfold stepCall
  simp only [hraw, argsA_clean x h.bs hcl, argsA_clean [] h.bs rfl, List.append_nil, List.nil_append, Bool.false_eq_true, if_false]
/-! Sealing. -/
mutual
theorem sealV_clean (deep : List AB → List AV → List AV × List AB) (bs : List AB) : ∀ v : AV, v.clean = true → sealV deep bs v = (v, bs)
  | .ref .., h => by simp [AV.clean] at h
  | .rsl .., h => by simp [AV.clean] at h
  | .fn f x y, h => by
    simp only [AV.clean, Bool.and_eq_true] at h
    simp only [sealV, sealVL_clean deep bs x h.1, sealVL_clean deep bs y h.2]
  | .ifc t v, h => by
    simp only [AV.clean] at h
    simp only [sealV, sealV_clean deep bs v h]
  | .agg c, h => by
    simp only [AV.clean] at h
    simp only [sealV, sealVL_clean deep bs c h]
  | .tup c, h => by
    simp only [AV.clean] at h
    simp only [sealV, sealVL_clean deep bs c h]
  | .hole, _ => rfl
  | .bool _, _ => rfl
  | .int .., _ => rfl
  | .str _, _ => rfl
  | .ptr0, _ => rfl
  | .sl0, _ => rfl
  | .map0, _ => rfl
  | .fn0, _ => rfl
  | .ifc0, _ => rfl
  | .vref .., _ => rfl
  | .sl .., _ => rfl
  | .mref _, _ => rfl
  | .yc _, _ => rfl
theorem sealVL_clean (deep : List AB → List AV → List AV × List AB) (bs : List AB) : ∀ l : List AV, cleanL l = true → sealVL deep bs l = (l, bs)
  | [], _ => rfl
  | v :: r, h => by
    simp only [cleanL, Bool.and_eq_true] at h
    simp only [sealVL, sealV_clean deep bs v h.1, sealVL_clean deep bs r h.2]
end
theorem sealVL_app (deep : List AB → List AV → List AV × List AB) : ∀ (a b : List AV) (bs : List AB), sealVL deep bs (a ++ b) = ((sealVL deep bs a).1 ++ (sealVL deep (sealVL deep bs a).2 b).1, (sealVL deep (sealVL deep bs a).2 b).2)
  | [], b, bs => rfl
  | x :: a, b, bs => by
    simp only [List.cons_append, sealVL, sealVL_app deep a b]
/-- A row whose cells are sealed in their turn. -/
theorem seal_deep {bs bs' : List AB} {b n ver : Nat} {cap : Option Nat} {c c' d : List AV} {i j : BI} (hb : bs[b]? = some (.cells c i)) (hv : ver = verA i c.length) (hw : i.wr = true) (hcl : i.cl = false) (hd : sealVL (sealL 3) bs c = (c', bs')) (hb' : bs'[b]? = some (.cells d j))
    (h1 : cleanL c' = true) (h2 : c'.length = c.length) (h3 : d.length = c.length) (h4 : j.wr = true) (h5 : j.opn = i.opn) (h6 : j.sz = i.sz) (hl : c.length = n * i.sz) (hz : 0 < i.sz) : AV.seal bs (.rsl b 0 n cap ver) = (.sl c' n (tightA cap n), bs'.set b (.cells c' { j with cl := true, wr := false })) := by
  unfold AV.seal
  have hs : sealB (sealL 4) bs b ver = some (c', i, bs'.set b (.cells c' { j with cl := true, wr := false })) := by
    unfold sealB
    have e : sealL 4 bs c = (c', bs') := hd
    simp only [hb, e, hw, hcl, hb', h1, h2, h3, h4, h5, h6, Bool.true_eq_false, Bool.false_eq_true, if_false, if_true, beq_self_eq_true, Bool.and_self]
    rw [if_pos hv]
  simp only [sealV, hs]
  rw [if_pos ⟨by omega, hz⟩, if_pos ⟨trivial, by omega⟩]
end Go.Proofs.Ytbebcbcnibfbhaa.Ab
