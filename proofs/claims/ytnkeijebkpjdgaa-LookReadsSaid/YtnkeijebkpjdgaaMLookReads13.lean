import Derived.Test.YtnkeijebkpjdgaaMLookReads12
import Derived.Laws.BitsLemmas
import Derived.Laws.Bits64
import Derived.Test.YtnkeijebkpjdgaaMLookReads11
set_option linter.unusedVariables false
set_option linter.unusedSimpArgs false
/- Over the engine, third text: creds.In. -/
namespace Go.Proofs.Ytnkeijebkpjdgaa.Ab
open Go Go.RowKit

theorem wrap64 {i : Int} (h0 : -9223372036854775808 ≤ i) (h1 : i ≤ 9223372036854775807) : IntKind.wrap .i64 i = i := by
  rw [IntKind.wrap_i64]; omega
set_option maxRecDepth 100000
def idxS (l : List Int) (t : Bool) (g : Int) (i : Int) : ST :=
  ⟨RG.of 19 [(8, .int .i64 i), (7, .int .i64 l.length), (1, .int .u32 g), (0, .sl (numsA .u32 l) l.length t)], ⟨[], []⟩⟩
theorem index_c (m : Nat) (l : List Int) (t : Bool) (g : Int) (hl : l.length ≤ 4611686018427387900) : ∃ v, (∃ r : Int, v = .int .i64 r ∧ (0 ≤ r ↔ g ∈ l)) ∧ ∀ (from_ : FuncId) (h : H), evCall TE (m + 1) from_ (.fn 77 [] []) [.sl (numsA .u32 l) l.length t, .int .u32 g] h = some (.ret v, h) := by
  refine call_cleanP (fn := Try.f77) rfl Try.func77 rfl (fun _ => rfl) rfl rfl (Nat.le_of_ble_eq_true rfl) ?_
  conv => whnf
  refine ⟨l.length + 1, ?_, ?_⟩
  · show l.length + 1 ≤ 4611686018427387904
    omega
  · refine rounds_ind (idxS l t g) (fun i => 0 ≤ i ∧ i ≤ l.length ∧ g ∉ l.take i.toNat) (fun i => (l.length - i).toNat) ?_ _ 0 _ ⟨by omega, by omega, by simp⟩ (by omega) ?_
    · intro i m' hI ih
      conv => whnf
      cases h1 : decide (i < (l.length : Int)) with
      | false =>
        conv => whnf
        have h1 := of_decide_eq_false h1
        refine ⟨rfl, -1, rfl, ⟨by omega, fun hg => absurd ?_ hI.2.2⟩⟩
        rwa [List.take_of_length_le (by omega)]
      | true =>
        have h1 := of_decide_eq_true h1
        obtain ⟨x, hx⟩ : ∃ x, l[i.toNat]? = some x := ⟨_, List.getElem?_eq_getElem (by omega)⟩
        have hc : (numsA .u32 l)[i.toNat * 1]? = some (.int .u32 x) := by rw [Nat.mul_one, numsA, List.getElem?_map, hx]; rfl
        conv => whnf
        refine runK_ret (ev_indexSl (sz := 1) rfl rfl rfl rfl (by omega) h1) ?_
        conv => whnf
        refine runK_ret (ev_loadV (z := 1) rfl rfl rfl hc) ?_
        conv => whnf
        cases h2 : g == x with
        | true =>
          conv => whnf
          have h2 : g = x := by simpa using h2
          exact ⟨rfl, i, rfl, ⟨fun _ => h2 ▸ List.mem_of_getElem? hx, fun _ => hI.1⟩⟩
        | false =>
          conv => whnf
          have h2 : g ≠ x := by simpa using h2
          have hw : IntKind.wrap .i64 (i + 1) = i + 1 := wrap64 (by omega) (by omega)
          refine ih (IntKind.wrap .i64 (i + 1)) _ ?_ ?_ (by kernel_rfl)
          · rw [hw]
            refine ⟨by omega, by omega, ?_⟩
            rw [show (i + 1).toNat = i.toNat + 1 by omega, List.take_add_one, hx]
            simp [hI.2.2, h2]
          · rw [hw]; omega
    · kernel_rfl
theorem index_nil (m : Nat) (from_ : FuncId) (h : H) (g : Int) : evCall TE (m + 1) from_ (.fn 77 [] []) [.sl0, .int .u32 g] h = some (.ret (.int .i64 (-1)), h) := by
  refine call_clean (fn := Try.f77) rfl Try.func77 rfl rfl rfl rfl rfl (Nat.le_of_ble_eq_true rfl) ?_
  conv => whnf
  refine ⟨3, Nat.le_of_ble_eq_true rfl, ?_⟩
  conv => whnf
theorem contains_c (m : Nat) (from_ : FuncId) (h : H) (v : AV) (l : List Int) (g : Int) (hv : rowOk .u32 v l) (hl : l.length ≤ 4611686018427387900) : evCall TE (m + 2) from_ (.fn 62 [] []) [v, .int .u32 g] h = some (.ret (.bool (decide (g ∈ l))), h) := by
  rcases hv with ⟨rfl, rfl⟩ | ⟨t, rfl⟩
  · refine call_clean (fn := Try.f62) rfl Try.func62 rfl rfl rfl rfl rfl (Nat.le_of_ble_eq_true rfl) ?_
    conv => whnf
    refine ⟨_, _, index_nil m _ _ g, ?_⟩
    conv => whnf
    simp
  · refine call_clean (fn := Try.f62) rfl Try.func62 rfl rfl rfl rfl rfl (Nat.le_of_ble_eq_true rfl) ?_
    conv => whnf
    obtain ⟨_, ⟨r, rfl, hr⟩, hc⟩ := index_c m l t g hl
    refine ⟨_, _, hc _ _, ?_⟩
    conv => whnf
    congr 1
    exact decide_eq_decide.2 hr
/-- Who calls. -/
structure CredS where
  user : Int
  group : Int
  gs : AV
  l : List Int
def CredS.ok (c : CredS) : Prop := rowOk .u32 c.gs c.l ∧ c.l.length ≤ 4611686018427387900
def credA (c : CredS) : AV := .agg [.int .u32 c.user, .int .u32 c.group, c.gs]
def inS (c : CredS) (g : Int) : Bool := c.group == g || decide (g ∈ c.l)
set_option maxHeartbeats 1000000 in
theorem in_c (m : Nat) (from_ : FuncId) (h : H) (c : CredS) (g : Int) (hc : c.ok) : evCall TE (m + 3) from_ (.fn 38 [] []) [credA c, .int .u32 g] h = some (.ret (.bool (inS c g)), h) := by
  obtain ⟨u, gr, gs, l⟩ := c
  obtain ⟨h1, h2⟩ := hc
  unfold inS
  dsimp only at h1 h2 ⊢
  have key := fun (f : FuncId) (h : H) => contains_c (m := m) f h gs l g h1 h2
  rcases h1 with ⟨rfl, rfl⟩ | ⟨t, rfl⟩
  all_goals refine call_clean (fn := Try.f38) rfl Try.func38 rfl rfl rfl rfl rfl (Nat.le_of_ble_eq_true rfl) ?_
  all_goals conv => whnf
  all_goals cases h3 : gr == g
  all_goals conv => whnf
  all_goals first | rfl | refine ⟨_, _, key _ _, ?_⟩
  all_goals conv => whnf
  all_goals rfl
end Go.Proofs.Ytnkeijebkpjdgaa.Ab
/- Over the engine, fourth text: access.May, access.Owns, access.Bits. -/
namespace Go.Proofs.Ytnkeijebkpjdgaa.Ab
open Go Go.RowKit

def band (k : IntKind) (a b : Int) : Int := IntKind.wrap k ((BitVec.ofInt k.bits a &&& BitVec.ofInt k.bits b).toNat : Int)
def bor (k : IntKind) (a b : Int) : Int := IntKind.wrap k ((BitVec.ofInt k.bits a ||| BitVec.ofInt k.bits b).toNat : Int)
def shr (a s : Int) : Int := a.fdiv (2 ^ (min s.toNat 32))
def mayX (x : NodeS) (c : CredS) (what : Int) : Bool :=
  !decide (what < 1) && (!decide (what > 7) && bif c.user == 0 then band .u32 what 1 == 0 || (x.kind != 1 || band .u32 x.mode 73 != 0)
    else bif c.user == x.user then band .u32 (shr x.mode 6) what == what else bif inS c x.group then band .u32 (shr x.mode 3) what == what else band .u32 (shr x.mode 0) what == what)
set_option maxRecDepth 100000
set_option maxHeartbeats 8000000 in
theorem may_some (m : Nat) (from_ : FuncId) (h : H) (v : AV) (ns : List NodeS) (hv : nodesOk v ns) (gen n : Int) (c : CredS) (what : Int) (hc : c.ok) (x : NodeS) (hn : thereS ns n = true) (hx : ns[n.toNat]? = some x) (hok : x.ok) :
    evCall TE (m + 4) from_ (.fn 15 [] []) [.agg [v, .int .u32 gen], .int .i64 n, credA c, .int .u32 what] h = some (.ret (.bool (mayX x c what)), h) := by
  have hat := fun (f : FuncId) (h : H) => attrs_some (m + 1) f h v ns hv gen n x hn hx hok
  have hin := fun (f : FuncId) (h : H) => in_c m f h c x.group hc
  obtain ⟨u, gr, gs, l⟩ := c
  obtain ⟨h1, h2⟩ := hc
  dsimp only at h1 h2
  rcases hv with ⟨rfl, rfl⟩ | ⟨t, rfl⟩
  · simp at hx
  unfold mayX band shr
  dsimp only
  rcases h1 with ⟨rfl, rfl⟩ | ⟨tt, rfl⟩
  · refine call_clean (fn := Try.f15) rfl Try.func15 rfl rfl rfl rfl rfl (Nat.le_of_ble_eq_true rfl) ?_
    conv => whnf
    refine ⟨_, _, hat _ _, ?_⟩
    conv => whnf
    cases h1 : decide (what < 1) with
    | true =>
      conv => whnf
      rfl
    | false =>
      conv => whnf
      cases h2 : decide (what > 7) with
      | true =>
        conv => whnf
        rfl
      | false =>
        conv => whnf
        cases h3 : u == 0 with
        | true =>
          conv => whnf
          cases h4 : IntKind.wrap .u32 ((BitVec.ofInt IntKind.u32.bits what &&& BitVec.ofInt IntKind.u32.bits 1).toNat : Int) == 0 with
          | true =>
            conv => whnf
            rfl
          | false =>
            conv => whnf
            cases h5 : x.kind != 1 with
            | true =>
              conv => whnf
              rfl
            | false =>
              conv => whnf
              rfl
        | false =>
          conv => whnf
          cases h4 : u == x.user with
          | true =>
            conv => whnf
            rfl
          | false =>
            conv => whnf
            refine ⟨_, _, hin _ _, ?_⟩
            cases h5 : inS _ x.group with
            | true =>
              conv => whnf
              rfl
            | false =>
              conv => whnf
              rfl
  · refine call_clean (fn := Try.f15) rfl Try.func15 rfl rfl rfl rfl rfl (Nat.le_of_ble_eq_true rfl) ?_
    conv => whnf
    refine ⟨_, _, hat _ _, ?_⟩
    conv => whnf
    cases h1 : decide (what < 1) with
    | true =>
      conv => whnf
      rfl
    | false =>
      conv => whnf
      cases h2 : decide (what > 7) with
      | true =>
        conv => whnf
        rfl
      | false =>
        conv => whnf
        cases h3 : u == 0 with
        | true =>
          conv => whnf
          cases h4 : IntKind.wrap .u32 ((BitVec.ofInt IntKind.u32.bits what &&& BitVec.ofInt IntKind.u32.bits 1).toNat : Int) == 0 with
          | true =>
            conv => whnf
            rfl
          | false =>
            conv => whnf
            cases h5 : x.kind != 1 with
            | true =>
              conv => whnf
              rfl
            | false =>
              conv => whnf
              rfl
        | false =>
          conv => whnf
          cases h4 : u == x.user with
          | true =>
            conv => whnf
            rfl
          | false =>
            conv => whnf
            refine ⟨_, _, hin _ _, ?_⟩
            cases h5 : inS _ x.group with
            | true =>
              conv => whnf
              rfl
            | false =>
              conv => whnf
              rfl
end Go.Proofs.Ytnkeijebkpjdgaa.Ab
/- Over the engine: more operations with letters; what is handed back, by lemmas. -/
namespace Go.Proofs.Ytnkeijebkpjdgaa.Ab
open Go Go.RowKit

theorem splice_left : ∀ (a b : List AV) (k : Nat) (vs : List AV), k + vs.length ≤ a.length → splice (a ++ b) k vs = splice a k vs ++ b
  | [], b, 0, [], _ => by cases b <;> rfl
  | [], b, k, v :: vs, h => by simp at h
  | [], b, k + 1, [], h => by simp at h
  | x :: a, b, 0, [], _ => rfl
  | x :: a, b, 0, v :: vs, h => by
    have := splice_left a b 0 vs (by simp at h ⊢; omega)
    simp only [List.cons_append, splice, this]
  | x :: a, b, k + 1, vs, h => by
    have := splice_left a b k vs (by simp at h ⊢; omega)
    simp only [List.cons_append, splice, this]
theorem splice_right : ∀ (a b : List AV) (k : Nat) (vs : List AV), splice (a ++ b) (a.length + k) vs = a ++ splice b k vs
  | [], b, k, vs => by simp
  | x :: a, b, k, vs => by
    rw [List.length_cons, show a.length + 1 + k = (a.length + k) + 1 by omega, List.cons_append]
    simp only [splice, splice_right a b k vs, List.cons_append]
theorem splice_rows {α : Type} {f : α → List AV} {z : Nat} (hf : ∀ x, (f x).length = z) : ∀ {l : List α} {i : Nat} {x x' : α} {k : Nat} {vs : List AV}, l[i]? = some x → k + vs.length ≤ z → splice (f x) k vs = f x' → splice (l.map f).flatten (i * z + k) vs = ((l.set i x').map f).flatten
  | [], i, x, x', k, vs, h, _, _ => by simp at h
  | y :: l, 0, x, x', k, vs, h, hk, he => by
    simp at h
    subst h
    rw [List.map_cons, List.flatten_cons, Nat.zero_mul, Nat.zero_add, splice_left _ _ _ _ (by rw [hf]; exact hk), he]
    rfl
  | y :: l, i + 1, x, x', k, vs, h, hk, he => by
    simp at h
    rw [List.map_cons, List.flatten_cons, show (i + 1) * z + k = (f y).length + (i * z + k) by rw [hf, Nat.add_mul]; omega, splice_right, splice_rows hf h hk he]
    rfl
theorem splice_nodes {ns : List NodeS} {i : Nat} {x x' : NodeS} {k : Nat} {vs : List AV} (hx : ns[i]? = some x) (hk : k + vs.length ≤ 25) (he : splice (nodeA x) k vs = nodeA x') : splice (nodesA ns) (i * 25 + k) vs = nodesA (ns.set i x') := splice_rows nodeA_len hx hk he

section
variable {P : Program} {flat : TypeId → Option (List Nat)} {nid : Nat} {ρ : Operand → AV}
/-- An append to an empty row. -/
theorem runK_append_new {t u e e' : TypeId} {sz by_ : Nat} {zc : List AV} {a x : Operand} {b n : Nat} {cells c : List AV} {tt : Bool} {i : BI} {h : List AB} {K : List RL → AV → WL → Prop} (ht : P.underlying t = some (.slice e)) (hu : P.underlying u = some (.slice e')) (hs : szOf P e = some sz) (hb : bytesA P e = some by_) (hz : zeroCellsA P e = some zc)
    (ha : ρ a = .rsl b 0 0 (some 0) 0) (hx : ρ x = .sl cells n tt) (hbb : h[b]? = some (.cells c i)) (hver : 0 = verA i c.length) (hn : 0 < n) (hl : cells.length = n * sz) (h1 : n ≤ 140737488355328) (h2 : n * by_ ≤ 140737488355328) (h3 : 0 < sz) (h4 : zc.length = sz)
    (hk : K [.info b, .cells b 0 (0 * sz)] (.rsl nid 0 n none (cells.length + 1)) (.new (.cells cells ⟨plainL zc, sz, true, true⟩))) : runK (evOp P flat nid (.call { callee := .builtin .append, args := #[a, x], argTypes := #[t, u] }) ρ) h K := by
  simp only [evOp, builtinA, List.map_cons, List.map_nil, appendA, ht, hs, hb, hz, ha, hx, newCells, List.head?_cons, hu, lenOfA, sliceCells, Option.getD_some]
  have e1 : (if True ∧ cells.length = n * sz then cells else cells.take (n * sz)) = cells := if_pos ⟨trivial, hl⟩
  simp only [e1]
  rw [if_pos ⟨Nat.le_refl _, by omega⟩, if_pos ⟨by omega, by rw [Nat.zero_add]; exact h2, h3, h4⟩]
  unfold runK
  simp only [hbb]
  rw [if_pos hver, if_neg (by omega)]
  unfold runK
  simp only [hbb]
  rw [if_pos (by omega)]
  refine runK_ret (v := .rsl nid 0 n none (cells.length + 1)) (w := .new (.cells cells ⟨plainL zc, sz, true, true⟩)) ?_ hk
  simp [cleanL]
theorem ev_clip {t e : TypeId} {sz n : Nat} {a hi mx : Operand} {cells : List AV} {tt : Bool} {k k' : IntKind} (ht : P.underlying t = some (.slice e)) (hs : szOf P e = some sz) (ha : ρ a = .sl cells n tt) (hh : ρ hi = .int k n) (hm : ρ mx = .int k' n) (hl : cells.length = n * sz) :
    evOp P flat nid (.slice t a none (some hi) (some mx)) ρ = .ret (.sl cells n true, .none) := by
  simp only [evOp, sliceA, ht, ha, hs, Option.map_some, Option.map_none, boundsA, boundA, hh, hm]
  rw [if_pos ⟨by omega, by omega⟩]
  simp only [Int.toNat_natCast]
  rw [if_pos ⟨by omega, by omega⟩]
  simp only [Nat.le_refl, and_self, if_true, hl, tightS, Int.toNat_natCast, decide_true, Nat.sub_zero]
end
section
variable {P : Program} {flat : TypeId → Option (List Nat)} {nid : Nat} {ρ : Operand → AV}
end
section
variable {P : Program} {flat : TypeId → Option (List Nat)} {nid : Nat} {ρ : Operand → AV}
theorem ev_makeN {t e : TypeId} {sz by_ : Nat} {z cs : List AV} {a b : Operand} {k k' : IntKind} {n : Nat} (ht : P.underlying t = some (.slice e)) (hs : szOf P e = some sz) (hb : bytesA P e = some by_) (hz : zeroCellsA P e = some z) (ha : ρ a = .int k n) (hy : ρ b = .int k' n)
    (h2 : n ≤ 140737488355328) (h3 : by_ * n ≤ 140737488355328) (h4 : z.length = sz) (h5 : 0 < sz) (h6 : oneL z = true) (hcs : repCells n z = cs) :
    evOp P flat nid (.makeSlice t a b) ρ = .ret (.rsl nid 0 n (some n) 0, .new (.cells cs ⟨cleanL z && plainL z, sz, false, true⟩)) := by
  rw [ev_makeSlice ht hs hb hz ha hy (by omega) (by omega) (by omega) (by have : (by_ * (n : Int)) = ((by_ * n : Nat) : Int) := by rw [Int.natCast_mul]
                                                                          omega) h4 h5 h6, Int.toNat_natCast, hcs]
end
section
variable {P : Program} {flat : TypeId → Option (List Nat)} {nid : Nat} {ρ : Operand → AV}
theorem ev_box {t : TypeId} {x : Operand} {c : List AV} (hx : (ρ x).toCells = some c) (ho : oneL c = true) : evOp P flat nid (.box t x) ρ = .ret (.ref nid 0 0, .new (.cells c ⟨false, 0, false, true⟩)) := by
  simp only [evOp, hx, ho, if_true]
end
/-- What is handed back, when it is known how it is sealed. -/
theorem leaveA_of {n : Nat} {v v' : AV} {h : H} {bs' : List AB} (hs : v.seal h.bs = (v', bs')) (hu : v'.und n = true) (he : escOk n h.esc = true) : leaveA false n v h = (v', { bs := bs'.take n, esc := escCut n h.esc }) := by
  unfold leaveA
  simp only [hs, hu, he, Bool.false_eq_true, if_false, Bool.and_self, if_true]
theorem seal_rsl {bs : List AB} {b off n ver : Nat} {cap : Option Nat} {c : List AV} {i : BI} (hb : bs[b]? = some (.cells c i)) (hv : ver = verA i c.length) (hw : i.wr = true) (hcl : i.cl = true) (hl : off + n * i.sz ≤ c.length) (hz : 0 < i.sz) :
    AV.seal bs (.rsl b off n cap ver) = (.sl ((c.drop off).take (n * i.sz)) n (tightA cap n), bs.set b (.cells c { i with wr := false })) := argA_rsl hb hv hw hcl hl hz
/-- The end of a body, told by a letter. -/
def EndOk (P : Program) (fn : Func) (raw : Bool) (n : Nat) (K : AV → H → Prop) (End : AX → ST → Prop) : Prop :=
  ∀ (x : AX) (s : ST) (vs : List AV) (v' : AV) (h' : H), (x = .normal ∨ x = .ret) → resA P s fn.results.toList = some vs → leaveA raw n (asOne vs) s.h = (v', h') → K v' h' → End x s
theorem body_end {E : Env} {call : CallF} {jmp : JumpF} {raw : Bool} {f : FuncId} {fn : Func} {c : Code} {args : List AV} {h : H} {K : AV → H → Prop} (hn : args.length ≤ fn.ntmps)
    (hwp : ∀ End, EndOk E.P fn raw h.bs.length K End → putsK (RG.empty fn.ntmps) 0 args fun r => codeK E call f jmp false c ⟨r, h⟩ End) : ∃ v h', evBody E call jmp raw f fn c args h = some (.ret v, h') ∧ K v h' := by
  have hw := hwp (fun x s => ∃ vs v' h', (x = .normal ∨ x = .ret) ∧ resA E.P s fn.results.toList = some vs ∧ leaveA raw h.bs.length (asOne vs) s.h = (v', h') ∧ K v' h') (fun x s vs v' h' h1 h2 h3 h4 => ⟨vs, v', h', h1, h2, h3, h4⟩)
  rw [putsK_eq] at hw
  obtain ⟨x, s', h1, vs, v', h', h2, h3, h4, h5⟩ := codeK_sound _ _ _ _ _ _ hw
  refine ⟨v', h', ?_, h5⟩
  unfold evBody
  rw [if_pos hn]
  rcases h2 with rfl | rfl <;> simp only [h1, h3, h4]
/-- call_clean, with the end told by a letter. -/
theorem call_cleanE {E : Env} {n : Nat} {from_ f : FuncId} {fn : Func} {c : Code} {x y args : List AV} {v : AV} {h : H} (hok : E.ok f = true) (hf : E.P.funcs[f]? = some fn) (hb : fn.body = some c) (hraw : E.raw from_ f = false) (hcl : cleanL (x ++ args ++ y) = true) (hv : v.clean = true)
    (hsum : E.sum f (x ++ args ++ y) = none) (hn : (x ++ args ++ y).length ≤ fn.ntmps)
    (hwp : ∀ End, EndOk E.P fn false 0 (fun v' _ => v' = v) End → putsK (RG.empty fn.ntmps) 0 (x ++ args ++ y) fun r => codeK E (evAll E n).1 f (evAll E n).2 false c ⟨r, ⟨[], []⟩⟩ End) : evCall E (n + 1) from_ (.fn f x y) args h = some (.ret v, h) := by
  obtain ⟨v', h', hk, rfl⟩ := body_end (h := ⟨[], []⟩) hn hwp
  have hcl' : cleanL args = true := by
    rw [cleanL_app, cleanL_app, Bool.and_eq_true, Bool.and_eq_true] at hcl
    exact hcl.1.2
  show stepCall E (evAll E n).1 (evAll E n).2 from_ (.fn f x y) args h = _
  unfold stepCall stepCall0
  simp only [hcl', Bool.not_true, Bool.and_false, hraw, argsA_clean args h.bs hcl', hok, hf, hb, hcl, hsum, hk, hv, Bool.false_eq_true, if_false, Bool.not_false, Bool.and_true, if_true]
/-! Sealing. -/
mutual
theorem sealV_clean (deep : List AB → List AV → List AV × List AB) (bs : List AB) : ∀ v : AV, v.clean = true → sealV deep bs v = (v, bs)
  | .ref .., h => by simp [AV.clean] at h
  | .rsl .., h => by simp [AV.clean] at h
  | .fn f x y, h => by
    simp only [AV.clean, Bool.and_eq_true] at h
    simp only [sealV, sealVL_clean deep bs x h.1, sealVL_clean deep bs y h.2]
  | .ifc t v, h => by
    simp only [AV.clean] at h
    simp only [sealV, sealV_clean deep bs v h]
  | .agg c, h => by
    simp only [AV.clean] at h
    simp only [sealV, sealVL_clean deep bs c h]
  | .tup c, h => by
    simp only [AV.clean] at h
    simp only [sealV, sealVL_clean deep bs c h]
  | .hole, _ => rfl
  | .bool _, _ => rfl
  | .int .., _ => rfl
  | .str _, _ => rfl
  | .ptr0, _ => rfl
  | .sl0, _ => rfl
  | .map0, _ => rfl
  | .fn0, _ => rfl
  | .ifc0, _ => rfl
  | .vref .., _ => rfl
  | .sl .., _ => rfl
  | .mref _, _ => rfl
  | .yc _, _ => rfl
theorem sealVL_clean (deep : List AB → List AV → List AV × List AB) (bs : List AB) : ∀ l : List AV, cleanL l = true → sealVL deep bs l = (l, bs)
  | [], _ => rfl
  | v :: r, h => by
    simp only [cleanL, Bool.and_eq_true] at h
    simp only [sealVL, sealV_clean deep bs v h.1, sealVL_clean deep bs r h.2]
end
theorem sealVL_app (deep : List AB → List AV → List AV × List AB) : ∀ (a b : List AV) (bs : List AB), sealVL deep bs (a ++ b) = ((sealVL deep bs a).1 ++ (sealVL deep (sealVL deep bs a).2 b).1, (sealVL deep (sealVL deep bs a).2 b).2)
  | [], b, bs => rfl
  | x :: a, b, bs => by
    simp only [List.cons_append, sealVL, sealVL_app deep a b]
/-- A row whose cells are sealed in their turn. -/
theorem seal_deep {bs bs' : List AB} {b n ver : Nat} {cap : Option Nat} {c c' d : List AV} {i j : BI} (hb : bs[b]? = some (.cells c i)) (hv : ver = verA i c.length) (hw : i.wr = true) (hcl : i.cl = false) (hd : sealVL (sealL 3) bs c = (c', bs')) (hb' : bs'[b]? = some (.cells d j))
    (h1 : cleanL c' = true) (h2 : c'.length = c.length) (h3 : d.length = c.length) (h4 : j.wr = true) (h5 : j.opn = i.opn) (h6 : j.sz = i.sz) (hl : c.length = n * i.sz) (hz : 0 < i.sz) : AV.seal bs (.rsl b 0 n cap ver) = (.sl c' n (tightA cap n), bs'.set b (.cells c' { j with cl := true, wr := false })) := by
  unfold AV.seal
  have hs : sealB (sealL 4) bs b ver = some (c', i, bs'.set b (.cells c' { j with cl := true, wr := false })) := by
    unfold sealB
    have e : sealL 4 bs c = (c', bs') := hd
    simp only [hb, e, hw, hcl, hb', h1, h2, h3, h4, h5, h6, Bool.true_eq_false, Bool.false_eq_true, if_false, if_true, beq_self_eq_true, Bool.and_self]
    rw [if_pos hv]
  simp only [sealV, hs]
  rw [if_pos ⟨by omega, hz⟩, if_pos ⟨trivial, by omega⟩]
end Go.Proofs.Ytnkeijebkpjdgaa.Ab
/- Over the engine: rows that are cloned and clipped. -/
namespace Go.Proofs.Ytnkeijebkpjdgaa.Ab
open Go Go.RowKit

set_option maxRecDepth 100000
/-- A row in memory of its own. -/
def rowC (c : List AV) (n : Nat) (v : AV) : AV := match v with
  | .sl0 => .sl0
  | _ => .sl c n true
theorem numsA_len (k : IntKind) (l : List Int) : (numsA k l).length = l.length * 1 := by simp [numsA]

theorem bytesClone_c (m : Nat) (from_ : FuncId) (h : H) (a : Int) (l : List Int) (t : Bool) (hl : (a :: l).length * 1 ≤ 140737488351232) : evCall TE (m + 1) from_ (.fn 50 [] []) [.sl (numsA .u8 (a :: l)) (a :: l).length t] h = some (.ret (.sl (numsA .u8 (a :: l)) (a :: l).length false), h) := by
  obtain ⟨n, hn⟩ : ∃ n, n = (a :: l).length := ⟨_, rfl⟩
  have hn0 : 0 < n := by rw [hn]; exact Nat.succ_pos _
  have hc : (numsA .u8 (a :: l)).length = n * 1 := by rw [numsA_len, hn]
  rw [← hn] at hl ⊢
  clear hn
  generalize numsA .u8 (a :: l) = c at hc ⊢
  refine call_cleanE (fn := Try.f50) rfl Try.func50 rfl rfl rfl rfl rfl (Nat.le_of_ble_eq_true rfl) ?_
  intro End hE
  conv => whnf
  (refine runK_append_new (sz := 1) (by_ := 1) rfl rfl rfl rfl rfl rfl rfl rfl rfl hn0 hc (by omega) (by omega) (by decide) rfl ?_)
  conv => whnf
  (refine hE _ _ [_] _ _ (.inr rfl) rfl (leaveA_of (seal_rsl rfl rfl rfl rfl (by show 0 + n * 1 ≤ c.length; omega) (by decide)) rfl rfl) ?_)
  conv => whnf
  (show AV.sl ((c.drop 0).take (n * 1)) n false = _; rw [List.drop_zero, ← hc, List.take_length])
theorem bytesClone_0 (m : Nat) (from_ : FuncId) (h : H) (t : Bool) : evCall TE (m + 1) from_ (.fn 50 [] []) [.sl [] 0 t] h = some (.ret (.sl [] 0 true), h) := by
  refine call_clean (fn := Try.f50) rfl Try.func50 rfl rfl rfl rfl rfl (Nat.le_of_ble_eq_true rfl) ?_
  conv => whnf
  rfl
theorem bytesClone_nil (m : Nat) (from_ : FuncId) (h : H) : evCall TE (m + 1) from_ (.fn 50 [] []) [.sl0] h = some (.ret .sl0, h) := by
  refine call_clean (fn := Try.f50) rfl Try.func50 rfl rfl rfl rfl rfl (Nat.le_of_ble_eq_true rfl) ?_
  conv => whnf
theorem bytesClip_c (m : Nat) (from_ : FuncId) (h : H) (l : List Int) (t : Bool) : evCall TE (m + 1) from_ (.fn 49 [] []) [.sl (numsA .u8 l) l.length t] h = some (.ret (.sl (numsA .u8 l) l.length true), h) := by
  have hc : (numsA .u8 l).length = l.length * 1 := by rw [numsA_len]
  refine call_clean (fn := Try.f49) rfl Try.func49 rfl rfl rfl rfl rfl (Nat.le_of_ble_eq_true rfl) ?_
  conv => whnf
  (refine runK_ret (ev_clip (sz := 1) rfl rfl rfl rfl rfl hc) ?_)
  conv => whnf
theorem bytesClip_0 (m : Nat) (from_ : FuncId) (h : H) (t : Bool) : evCall TE (m + 1) from_ (.fn 49 [] []) [.sl [] 0 t] h = some (.ret (.sl [] 0 true), h) := bytesClip_c m from_ h [] t
theorem bytes_three {v : AV} {l : List Int} (hv : rowOk .u8 v l) : (v = .sl0 ∧ l = []) ∨ (∃ t, v = .sl [] 0 t ∧ l = []) ∨ ∃ a r t, v = .sl (numsA .u8 (a :: r)) (a :: r).length t ∧ l = a :: r := by
  rcases hv with h | ⟨t, rfl⟩
  · exact .inl h
  · cases l with
    | nil => exact .inr (.inl ⟨t, rfl, rfl⟩)
    | cons a r => exact .inr (.inr ⟨a, r, t, rfl, rfl⟩)
theorem bytesClip_nil (m : Nat) (from_ : FuncId) (h : H) : evCall TE (m + 1) from_ (.fn 49 [] []) [.sl0] h = some (.ret .sl0, h) := by
  refine call_clean (fn := Try.f49) rfl Try.func49 rfl rfl rfl rfl rfl (Nat.le_of_ble_eq_true rfl) ?_
  conv => whnf
theorem bytesC_ok {v : AV} {l : List Int} (hv : rowOk .u8 v l) : rowOk .u8 (rowC (numsA .u8 l) l.length v) l := by
  rcases hv with ⟨rfl, rfl⟩ | ⟨t, rfl⟩
  · exact .inl ⟨rfl, rfl⟩
  · exact .inr ⟨true, rfl⟩

theorem entsClone_c (m : Nat) (from_ : FuncId) (h : H) (a : EntryS) (l : List EntryS) (t : Bool) (hl : (a :: l).length * 32 ≤ 140737488351232) : evCall TE (m + 1) from_ (.fn 52 [] []) [.sl (entriesA (a :: l)) (a :: l).length t] h = some (.ret (.sl (entriesA (a :: l)) (a :: l).length false), h) := by
  obtain ⟨n, hn⟩ : ∃ n, n = (a :: l).length := ⟨_, rfl⟩
  have hn0 : 0 < n := by rw [hn]; exact Nat.succ_pos _
  have hc : (entriesA (a :: l)).length = n * 3 := by rw [entriesA_len, hn]
  rw [← hn] at hl ⊢
  clear hn
  generalize entriesA (a :: l) = c at hc ⊢
  refine call_cleanE (fn := Try.f52) rfl Try.func52 rfl rfl rfl rfl rfl (Nat.le_of_ble_eq_true rfl) ?_
  intro End hE
  conv => whnf
  (refine runK_append_new (sz := 3) (by_ := 32) rfl rfl rfl rfl rfl rfl rfl rfl rfl hn0 hc (by omega) (by omega) (by decide) rfl ?_)
  conv => whnf
  (refine hE _ _ [_] _ _ (.inr rfl) rfl (leaveA_of (seal_rsl rfl rfl rfl rfl (by show 0 + n * 3 ≤ c.length; omega) (by decide)) rfl rfl) ?_)
  conv => whnf
  (show AV.sl ((c.drop 0).take (n * 3)) n false = _; rw [List.drop_zero, ← hc, List.take_length])
theorem entsClone_0 (m : Nat) (from_ : FuncId) (h : H) (t : Bool) : evCall TE (m + 1) from_ (.fn 52 [] []) [.sl [] 0 t] h = some (.ret (.sl [] 0 true), h) := by
  refine call_clean (fn := Try.f52) rfl Try.func52 rfl rfl rfl rfl rfl (Nat.le_of_ble_eq_true rfl) ?_
  conv => whnf
  rfl
theorem entsClone_nil (m : Nat) (from_ : FuncId) (h : H) : evCall TE (m + 1) from_ (.fn 52 [] []) [.sl0] h = some (.ret .sl0, h) := by
  refine call_clean (fn := Try.f52) rfl Try.func52 rfl rfl rfl rfl rfl (Nat.le_of_ble_eq_true rfl) ?_
  conv => whnf
theorem entsClip_c (m : Nat) (from_ : FuncId) (h : H) (l : List EntryS) (t : Bool) : evCall TE (m + 1) from_ (.fn 51 [] []) [.sl (entriesA l) l.length t] h = some (.ret (.sl (entriesA l) l.length true), h) := by
  have hc : (entriesA l).length = l.length * 3 := by rw [entriesA_len]
  refine call_clean (fn := Try.f51) rfl Try.func51 rfl rfl rfl rfl rfl (Nat.le_of_ble_eq_true rfl) ?_
  conv => whnf
  (refine runK_ret (ev_clip (sz := 3) rfl rfl rfl rfl rfl hc) ?_)
  conv => whnf
theorem entsClip_0 (m : Nat) (from_ : FuncId) (h : H) (t : Bool) : evCall TE (m + 1) from_ (.fn 51 [] []) [.sl [] 0 t] h = some (.ret (.sl [] 0 true), h) := entsClip_c m from_ h [] t
theorem ents_three {v : AV} {l : List EntryS} (hv : entsOk v l) : (v = .sl0 ∧ l = []) ∨ (∃ t, v = .sl [] 0 t ∧ l = []) ∨ ∃ a r t, v = .sl (entriesA (a :: r)) (a :: r).length t ∧ l = a :: r := by
  rcases hv with h | ⟨t, rfl⟩
  · exact .inl h
  · cases l with
    | nil => exact .inr (.inl ⟨t, rfl, rfl⟩)
    | cons a r => exact .inr (.inr ⟨a, r, t, rfl, rfl⟩)
theorem entsClip_nil (m : Nat) (from_ : FuncId) (h : H) : evCall TE (m + 1) from_ (.fn 51 [] []) [.sl0] h = some (.ret .sl0, h) := by
  refine call_clean (fn := Try.f51) rfl Try.func51 rfl rfl rfl rfl rfl (Nat.le_of_ble_eq_true rfl) ?_
  conv => whnf
theorem entsC_ok {v : AV} {l : List EntryS} (hv : entsOk v l) : entsOk (rowC (entriesA l) l.length v) l := by
  rcases hv with ⟨rfl, rfl⟩ | ⟨t, rfl⟩
  · exact .inl ⟨rfl, rfl⟩
  · exact .inr ⟨true, rfl⟩
end Go.Proofs.Ytnkeijebkpjdgaa.Ab
/- Over the engine: a tree that is cloned. -/
namespace Go.Proofs.Ytnkeijebkpjdgaa.Ab
open Go Go.RowKit

set_option maxRecDepth 100000
def node0 : NodeS := ⟨0, 0, 0, 0, 0, 0, 0, 0, 0, 0, 0, 0, .sl0, [], fun _ => 0, [], .sl0, [], 0, 0⟩
/-- What is known of a node, wherever it comes from. -/
def NodeS.fit (x : NodeS) : Prop := x.ok ∧ x.bytes.length ≤ 140737488351232 ∧ x.ents.length * 32 ≤ 140737488351232
/-- A node in memory of its own. -/
def cloneN (x : NodeS) : NodeS := { x with data := rowC (numsA .u8 x.bytes) x.bytes.length x.data, list := rowC (entriesA x.ents) x.ents.length x.list }
theorem topL_app : ∀ (a b : List AV), topL (a ++ b) = max (topL a) (topL b)
  | [], b => by simp [topL]
  | x :: a, b => by simp only [List.cons_append, topL, topL_app a b, Nat.max_assoc]
/-- So many are cloned. -/
def midN (ns : List NodeS) (i : Nat) : List NodeS := (ns.take i).map cloneN ++ ns.drop i
theorem midN_zero (ns : List NodeS) : midN ns 0 = ns := by simp [midN]
theorem midN_all (ns : List NodeS) {i : Nat} (h : ns.length ≤ i) : midN ns i = ns.map cloneN := by simp [midN, List.take_of_length_le h, List.drop_eq_nil_of_le h]
theorem midN_len (ns : List NodeS) (i : Nat) : (midN ns i).length = ns.length := by simp [midN]; omega
theorem midN_get {ns : List NodeS} {i : Nat} {x : NodeS} (h : ns[i]? = some x) : (midN ns i)[i]? = some x := by
  obtain ⟨h1, rfl⟩ := List.getElem?_eq_some_iff.1 h
  unfold midN
  rw [List.getElem?_append_right (by simp; omega)]
  simp [Nat.min_eq_left (Nat.le_of_lt h1)]
theorem midN_set {ns : List NodeS} {i : Nat} {x : NodeS} (h : ns[i]? = some x) : (midN ns i).set i (cloneN x) = midN ns (i + 1) := by
  obtain ⟨h1, rfl⟩ := List.getElem?_eq_some_iff.1 h
  unfold midN
  rw [List.set_append_right _ _ (by simp; omega)]
  simp only [List.length_map, List.length_take, Nat.min_eq_left (Nat.le_of_lt h1), Nat.sub_self]
  rw [List.drop_eq_getElem_cons h1, List.set_cons_zero, List.take_succ_eq_append_getElem h1, List.map_append, List.append_assoc]
  rfl
def cloneS (B : List AB) (ns : List NodeS) (t : Bool) (gen : Int) (a : Int × List NodeS) : ST :=
  ⟨RG.of 44 [(15, .int .i64 a.1), (14, .int .i64 ns.length), (3, .rsl 21 0 ns.length (some ns.length) 0), (2, .ref 20 0 0), (1, .ref 19 0 0)], ⟨B ++ [.cells [.sl (nodesA ns) ns.length t, .int .u32 gen] ⟨false, 0, false, true⟩, .cells [.sl0, .int .u32 0] ⟨false, 0, false, true⟩, .cells (nodesA a.2) ⟨false, 25, false, true⟩], []⟩⟩
theorem splice_nodes0 {ns : List NodeS} {i : Nat} {x x' : NodeS} {k : Nat} {vs : List AV} (hx : ns[i]? = some x) (hk : k + vs.length ≤ 25) (he : splice (nodeA x) k vs = nodeA x') : splice (nodesA ns) (0 + i * 25 + k) vs = nodesA (ns.set i x') := by
  rw [Nat.zero_add]
  exact splice_nodes hx hk he
end Go.Proofs.Ytnkeijebkpjdgaa.Ab
/- Over the engine: what is asked of a node: guard's asking. -/
namespace Go.Proofs.Ytnkeijebkpjdgaa.Ab
open Go Go.RowKit

/-- What is to be set. -/
structure SetS where
  hm : Bool
  mode : Int
  hu : Bool
  user : Int
  hg : Bool
  group : Int
  hs : Bool
  size : Int
  rh : Int
  rs : Int
  rn : Int
  wh : Int
  ws : Int
  wn : Int
def setA (s : SetS) : List AV := [.bool s.hm, .int .u32 s.mode, .bool s.hu, .int .u32 s.user, .bool s.hg, .int .u32 s.group, .bool s.hs, .int .u64 s.size, .int .u32 s.rh, .int .u32 s.rs, .int .u32 s.rn, .int .u32 s.wh, .int .u32 s.ws, .int .u32 s.wn]
/-- What is asked, by whom, when. -/
def askA (v : AV) (gen n : Int) (c : CredS) (s : SetS) (ss sn : Int) (owns : Bool) : AV :=
  .agg [v, .int .u32 gen, .int .i64 n, .int .u32 c.user, .int .u32 c.group, c.gs, .bool s.hm, .int .u32 s.mode, .bool s.hu, .int .u32 s.user, .bool s.hg, .int .u32 s.group, .bool s.hs, .int .u64 s.size, .int .u32 s.rh, .int .u32 s.rs, .int .u32 s.rn, .int .u32 s.wh, .int .u32 s.ws, .int .u32 s.wn, .int .u32 ss, .int .u32 sn, .bool owns]
set_option maxRecDepth 100000
def nanoOk (n : Int) : Bool := decide (n < 1000000000)
theorem times_c (m : Nat) (from_ : FuncId) (h : H) (s n : Int) : evCall TE (m + 1) from_ (.fn 26 [] []) [.agg [.int .u32 s, .int .u32 n]] h = some (.ret (.bool (nanoOk n)), h) := by
  refine call_clean (fn := Try.f26) rfl Try.func26 rfl rfl rfl rfl rfl (Nat.le_of_ble_eq_true rfl) ?_
  conv => whnf
  rfl
def ownsS (ns : List NodeS) (n : Int) (c : CredS) : Bool := thereS ns n && (c.user == 0 || c.user == (match ns[n.toNat]? with | some x => x.user | none => 0))
/-- The refusals: of the form. -/
def badT (how nano : Int) : Bool := decide (how > 2) || (how == 2 && !nanoOk nano)
def form0 (s : SetS) (sn : Int) : Bool := (s.hm && decide (s.mode > 4095)) || !nanoOk sn
def form1 (s : SetS) (sn : Int) : Bool := form0 s sn || badT s.rh s.rn
def form2 (s : SetS) (sn : Int) : Bool := form1 s sn || badT s.wh s.wn
def formS (s : SetS) (sn : Int) : Int := if form2 s sn = true then 22 else 0
def writesS (ns : List NodeS) (n : Int) (c : CredS) (owns : Bool) : Bool := owns || (match ns[n.toNat]? with | some x => mayX x c 2 | none => false)
def ownerS (x : NodeS) (c : CredS) (s : SetS) (owns : Bool) : Bool :=
  (s.hm && !owns) || (s.hu && !(c.user == 0) && (!owns || s.user != x.user)) || (s.hg && (!owns || (!(c.user == 0) && s.group != x.group && !inS c s.group)))
def sizeB (x : NodeS) (s : SetS) (w : Bool) : Int := if s.hs = false then 0 else if (x.kind == 2) = true then 21 else if (x.kind == 5) = true then 22 else if decide (s.size > 65536) = true then 27 else if w = false then 13 else 0
def stampsB (s : SetS) (owns w : Bool) : Int := if ((s.rh == 2 || s.wh == 2) && !owns) = true then 1 else if ((s.rh == 1 || s.wh == 1) && !w) = true then 13 else 0
section
variable (m : Nat) (from_ : FuncId) (h : H) (ns : List NodeS) (t : Bool) (gen n : Int) (c : CredS) (hc : c.ok) (s : SetS) (ss sn : Int) (owns : Bool)
include hc
variable (hok : ∀ x ∈ ns, x.ok) (hn : thereS ns n = true) (x : NodeS) (hx : ns[n.toNat]? = some x)
include hok hn hx
end
end Go.Proofs.Ytnkeijebkpjdgaa.Ab
/- Over the engine: are two trees alike? -/
namespace Go.Proofs.Ytnkeijebkpjdgaa.Ab
open Go Go.RowKit

def allSame {α : Type} (f : α → α → Bool) : List α → List α → Bool
  | [], [] => true
  | a :: x, b :: y => f a b && allSame f x y
  | _, _ => false
def intEq (a b : Int) : Bool := decide (a = b)
def entEq (a b : EntryS) : Bool := a.name == b.name && (a.node == b.node && (a.cookie == b.cookie && true))
set_option maxRecDepth 100000

def sameBytesS (l1 : List Int) (t1 : Bool) (l2 : List Int) (t2 : Bool) (i : Int) : ST :=
  ⟨RG.of 26 [(5, .int .i64 i), (1, .sl (numsA .u8 l2) l2.length t2), (0, .sl (numsA .u8 l1) l1.length t1)], ⟨[], []⟩⟩
def sameEntsS (l1 : List EntryS) (t1 : Bool) (l2 : List EntryS) (t2 : Bool) (i : Int) : ST :=
  ⟨RG.of 26 [(5, .int .i64 i), (1, .sl (entriesA l2) l2.length t2), (0, .sl (entriesA l1) l1.length t1)], ⟨[], []⟩⟩
def verfEq (x y : NodeS) : Bool := x.verf 0 == y.verf 0 && (x.verf 1 == y.verf 1 && (x.verf 2 == y.verf 2 && (x.verf 3 == y.verf 3 && (x.verf 4 == y.verf 4 && (x.verf 5 == y.verf 5 && (x.verf 6 == y.verf 6 && (x.verf 7 == y.verf 7 && true)))))))
def nodeEq (x y : NodeS) : Bool :=
  x.kind == y.kind && (x.gen == y.gen && (x.mode == y.mode && (x.user == y.user && (x.group == y.group && (x.links == y.links && ((x.rs == y.rs && (x.rn == y.rn && true)) && ((x.ws == y.ws && (x.wn == y.wn && true)) && ((x.ts == y.ts && (x.tn == y.tn && true)) &&
  (allSame intEq x.bytes y.bytes && (verfEq x y && (x.target == y.target && (allSame entEq x.ents y.ents && (x.parent == y.parent && x.next == y.next)))))))))))))
def sameNodesS (l1 : List NodeS) (t1 : Bool) (l2 : List NodeS) (t2 : Bool) (i : Int) : ST :=
  ⟨RG.of 27 [(5, .int .i64 i), (1, .sl (nodesA l2) l2.length t2), (0, .sl (nodesA l1) l1.length t1)], ⟨[], []⟩⟩
end Go.Proofs.Ytnkeijebkpjdgaa.Ab
/- Over the engine: what is set of a node, in plain words; set twice is set once. -/
namespace Go.Proofs.Ytnkeijebkpjdgaa.Ab
open Go Go.RowKit

/-- A file's bytes, so many. -/
def sized (l : List Int) (n : Nat) : List Int := l.take n ++ List.replicate (n - l.length) 0
/-- The deeds, one after the other. -/
def turned (x : NodeS) (ss sn : Int) : NodeS := { x with ts := ss, tn := sn }
def deed1 (s : SetS) (ss sn : Int) (x : NodeS) : NodeS := if s.hm = true then { x with mode := s.mode, ts := ss, tn := sn } else x
def deed2 (s : SetS) (ss sn : Int) (x : NodeS) : NodeS := if s.hu = true then { x with user := s.user, ts := ss, tn := sn } else x
def deed3 (s : SetS) (ss sn : Int) (x : NodeS) : NodeS := if s.hg = true then { x with group := s.group, ts := ss, tn := sn } else x
def deed4 (s : SetS) (ss sn : Int) (d : AV) (x : NodeS) : NodeS := if s.hs = true then { x with data := d, bytes := sized x.bytes s.size.toNat, ws := ss, wn := sn, ts := ss, tn := sn } else x
def deed5 (s : SetS) (ss sn : Int) (x : NodeS) : NodeS := if (s.rh == 2) = true then { x with rs := s.rs, rn := s.rn, ts := ss, tn := sn } else if (s.rh == 1) = true then { x with rs := ss, rn := sn, ts := ss, tn := sn } else x
def deed6 (s : SetS) (ss sn : Int) (x : NodeS) : NodeS := if (s.wh == 2) = true then { x with ws := s.ws, wn := s.wn, ts := ss, tn := sn } else if (s.wh == 1) = true then { x with ws := ss, wn := sn, ts := ss, tn := sn } else x
def deeds (s : SetS) (ss sn : Int) (d : AV) (x : NodeS) : NodeS := deed6 s ss sn (deed5 s ss sn (deed4 s ss sn d (deed3 s ss sn (deed2 s ss sn (deed1 s ss sn x)))))
/-- A node, but for how its rows are told. -/
def likeN (x y : NodeS) : Prop := x.kind = y.kind ∧ x.gen = y.gen ∧ x.mode = y.mode ∧ x.user = y.user ∧ x.group = y.group ∧ x.links = y.links ∧ x.rs = y.rs ∧ x.rn = y.rn ∧ x.ws = y.ws ∧ x.wn = y.wn ∧ x.ts = y.ts ∧ x.tn = y.tn ∧ x.bytes = y.bytes ∧ x.verf = y.verf ∧ x.target = y.target ∧ x.ents = y.ents ∧ x.parent = y.parent ∧ x.next = y.next
section
variable (s : SetS) (ss sn : Int) (d : AV) (y : NodeS)
end
end Go.Proofs.Ytnkeijebkpjdgaa.Ab
/- Over the engine: the deeds that are done to a node. -/
namespace Go.Proofs.Ytnkeijebkpjdgaa.Ab
open Go Go.RowKit

set_option maxRecDepth 100000
/-- What the loops of some code go through, in order. -/
def loopsOf : Code → List Code
  | .loop b => [b]
  | .seq a b => loopsOf a ++ loopsOf b
  | .cond _ a b => loopsOf a ++ loopsOf b
  | .block _ b => loopsOf b
  | .scope b => loopsOf b
  | _ => []
def loopAt (fn : Func) (k : Nat) : Code := match fn.body with
  | some c => (loopsOf c).getD k .skip
  | none => .skip
section
variable (b0 b1 b4 b5 b6 b7 b8 b9 b10 b11 b12 b13 b14 b15 b16 b17 b18 b19 b20 : AB) (s : SetS) (ss sn : Int) (bo : Nat → Int) (n : Int)
end
theorem numsA_take (k : IntKind) (l : List Int) (n : Nat) : (numsA k l).take n = numsA k (l.take n) := by simp [numsA]
/-- So many deeds. -/
def deedK (s : SetS) (ss sn : Int) (d : AV) (k : Nat) (x : NodeS) : NodeS := match k with
  | 0 => x
  | 1 => deed1 s ss sn x
  | 2 => deed2 s ss sn (deed1 s ss sn x)
  | 3 => deed3 s ss sn (deed2 s ss sn (deed1 s ss sn x))
  | 4 => deed4 s ss sn d (deed3 s ss sn (deed2 s ss sn (deed1 s ss sn x)))
  | 5 => deed5 s ss sn (deed4 s ss sn d (deed3 s ss sn (deed2 s ss sn (deed1 s ss sn x))))
  | _ => deeds s ss sn d x

end Go.Proofs.Ytnkeijebkpjdgaa.Ab
/- Over the engine: what is set of a node. -/
namespace Go.Proofs.Ytnkeijebkpjdgaa.Ab
open Go Go.RowKit

set_option maxRecDepth 100000
def worldA (ss sn : Int) (bo : Nat → Int) : AV := .agg [.int .u32 ss, .int .u32 sn, .int .u8 (bo 0), .int .u8 (bo 1), .int .u8 (bo 2), .int .u8 (bo 3), .int .u8 (bo 4), .int .u8 (bo 5), .int .u8 (bo 6), .int .u8 (bo 7)]
theorem nodeA_clean {x : NodeS} (h1 : x.data.clean = true) (h2 : x.list.clean = true) : cleanL (nodeA x) = true := by
  unfold nodeA
  simp only [cleanL, h1, h2, AV.clean, Bool.and_self]
theorem nodesA_clean : ∀ {l : List NodeS}, (∀ x ∈ l, x.data.clean = true ∧ x.list.clean = true) → cleanL (nodesA l) = true
  | [], _ => rfl
  | x :: l, h => by
    show cleanL (nodeA x ++ nodesA l) = true
    rw [cleanL_app, nodeA_clean (h x (List.mem_cons_self ..)).1 (h x (List.mem_cons_self ..)).2, nodesA_clean fun y hy => h y (List.mem_cons_of_mem _ hy)]
    rfl
theorem row_clean {k : IntKind} {v : AV} {l : List Int} (h : rowOk k v l) : v.clean = true := by
  rcases h with ⟨rfl, _⟩ | ⟨t, rfl⟩ <;> rfl
theorem ents_clean {v : AV} {l : List EntryS} (h : entsOk v l) : v.clean = true := by
  rcases h with ⟨rfl, _⟩ | ⟨t, rfl⟩ <;> rfl
/-- What is set of a node's tree. -/
def setN (ns : List NodeS) (n : Int) (s : SetS) (ss sn : Int) (x : NodeS) : List NodeS := (ns.map cloneN).set n.toNat (deeds s ss sn (.sl (numsA .u8 (sized x.bytes s.size.toNat)) s.size.toNat true) (cloneN x))

end Go.Proofs.Ytnkeijebkpjdgaa.Ab
/- Over the engine: names and paths. -/
namespace Go.Proofs.Ytnkeijebkpjdgaa.Ab
open Go Go.RowKit

set_option maxRecDepth 100000
/-- Has a text a byte? -/
def has (s : List UInt8) (c : Int) : Bool := s.any fun b => ((b.toNat : Int) == c)
theorem has_drop {s : List UInt8} {i : Nat} {b : UInt8} {c : Int} (h : s[i]? = some b) : has (s.drop i) c = (((b.toNat : Int) == c) || has (s.drop (i + 1)) c) := by
  obtain ⟨h1, rfl⟩ := List.getElem?_eq_some_iff.1 h
  unfold has
  rw [List.drop_eq_getElem_cons h1, List.any_cons]
section
variable {P : Program} {flat : TypeId → Option (List Nat)} {nid : Nat} {ρ : Operand → AV}
theorem ev_indexStr {t : TypeId} {a b : Operand} {s : List UInt8} {k : IntKind} {i : Int} {x : UInt8} (ht : P.underlying t = some .string) (ha : ρ a = .str s) (hb : ρ b = .int k i) (h0 : 0 ≤ i) (hx : s[i.toNat]? = some x) : evOp P flat nid (.index t a b) ρ = .ret (.int .u8 x.toNat, .none) := by
  simp only [evOp, indexA, ha, hb, ht, hx, pur]
  rw [if_pos h0]
end
def hasS (s : List UInt8) (c : Int) (row : AV) (N : Int) (j : Int) (i : Int) : ST :=
  ⟨RG.of 27 [(15, .int .i64 i), (14, .int .i64 s.length), (9, .int .i64 j), (8, .int .i64 N), (7, row), (5, .int .u8 c), (0, .str s)], ⟨[], []⟩⟩
set_option maxHeartbeats 4000000 in
theorem breaks_two (m : Nat) (from_ : FuncId) (h : H) (s : List UInt8) (tt : Bool) (hl : s.length ≤ 140737488351232) : evCall TE (m + 1) from_ (.fn 79 [] [.vref [(.sl [.int .u8 0, .int .u8 47] 2 tt)] 0]) [.str s] h = some (.ret (.bool (has s 0 || (has s 47 || s == []))), h) := by
  obtain ⟨r, hr⟩ : ∃ r, r = (has s 0 || (has s 47 || s == [])) := ⟨_, rfl⟩
  rw [← hr]
  refine call_clean (fn := Try.f79) rfl Try.func79 rfl rfl rfl rfl rfl (Nat.le_of_ble_eq_true rfl) ?_
  conv => whnf
  (with_reducible refine ⟨(3 : Nat), ?_, ?_⟩; · exact Nat.le_of_ble_eq_true rfl)
  conv => whnf
  refine ⟨s.length + 1, by show s.length + 1 ≤ 4611686018427387904; omega, ?_⟩
  refine rounds_ind (hasS s 0 (.sl [.int .u8 0, .int .u8 47] 2 tt) 2 0) (fun i => 0 ≤ i ∧ i ≤ s.length ∧ has s 0 = has (s.drop i.toNat) 0) (fun i => (s.length - i).toNat) ?_ _ 0 _ ⟨by omega, by omega, rfl⟩ (by omega) (by kernel_rfl)
  intro i m' hI ih
  obtain ⟨hI0, hI1, hI2⟩ := hI
  conv => whnf
  cases h1 : decide (i < (s.length : Int)) with
  | false =>
    have h1 := of_decide_eq_false h1
    have hf0 : has s 0 = false := by rw [hI2, List.drop_eq_nil_of_le (by omega)]; rfl
    clear ih hI0 hI1 hI2 h1
    conv => whnf
    refine ⟨s.length + 1, by show s.length + 1 ≤ 4611686018427387904; omega, ?_⟩
    refine rounds_ind (hasS s 47 (.sl [.int .u8 0, .int .u8 47] 2 tt) 2 1) (fun i => 0 ≤ i ∧ i ≤ s.length ∧ has s 47 = has (s.drop i.toNat) 47) (fun i => (s.length - i).toNat) ?_ _ 0 _ ⟨by omega, by omega, rfl⟩ (by omega) (by kernel_rfl)
    intro i m' hI ih
    obtain ⟨hI0, hI1, hI2⟩ := hI
    conv => whnf
    cases h1 : decide (i < (s.length : Int)) with
    | false =>
      have h1 := of_decide_eq_false h1
      have hf1 : has s 47 = false := by rw [hI2, List.drop_eq_nil_of_le (by omega)]; rfl
      clear ih hI0 hI1 hI2 h1
      conv => whnf
      (rw [hr]; simp_all; done)
    | true =>
      have h1 := of_decide_eq_true h1
      obtain ⟨b, hb⟩ : ∃ b, s[i.toNat]? = some b := ⟨_, List.getElem?_eq_getElem (by omega)⟩
      rw [has_drop hb] at hI2
      have hw : IntKind.wrap .i64 (i + 1) = i + 1 := wrap64 (by omega) (by omega)
      have hmu : (s.length - IntKind.wrap .i64 (i + 1)).toNat < (s.length - i).toNat := by rw [hw]; omega
      have hst : ((b.toNat : Int) == 47) = false → 0 ≤ IntKind.wrap .i64 (i + 1) ∧ IntKind.wrap .i64 (i + 1) ≤ s.length ∧ has s 47 = has (s.drop (IntKind.wrap .i64 (i + 1)).toNat) 47 := by
        intro he
        rw [he, Bool.false_or] at hI2
        rw [hw, show (i + 1).toNat = i.toNat + 1 by omega]
        exact ⟨by omega, by omega, hI2⟩
      have hfa : ((b.toNat : Int) == 47) = true → r = true := by
        intro he
        rw [hr, hI2, he]
        simp
      conv => whnf
      (refine runK_ret (ev_indexStr rfl rfl rfl hI0 hb) ?_)
      conv => whnf
      cases z0 : ↑b.toNat == Int.ofNat 47
      · conv => whnf
        (exact ih (IntKind.wrap .i64 (i + 1)) _ (hst ‹_›) hmu (by kernel_rfl))
      · conv => whnf
        (rw [hfa ‹_›])
  | true =>
    have h1 := of_decide_eq_true h1
    obtain ⟨b, hb⟩ : ∃ b, s[i.toNat]? = some b := ⟨_, List.getElem?_eq_getElem (by omega)⟩
    rw [has_drop hb] at hI2
    have hw : IntKind.wrap .i64 (i + 1) = i + 1 := wrap64 (by omega) (by omega)
    have hmu : (s.length - IntKind.wrap .i64 (i + 1)).toNat < (s.length - i).toNat := by rw [hw]; omega
    have hst : ((b.toNat : Int) == 0) = false → 0 ≤ IntKind.wrap .i64 (i + 1) ∧ IntKind.wrap .i64 (i + 1) ≤ s.length ∧ has s 0 = has (s.drop (IntKind.wrap .i64 (i + 1)).toNat) 0 := by
      intro he
      rw [he, Bool.false_or] at hI2
      rw [hw, show (i + 1).toNat = i.toNat + 1 by omega]
      exact ⟨by omega, by omega, hI2⟩
    have hfa : ((b.toNat : Int) == 0) = true → r = true := by
      intro he
      rw [hr, hI2, he]
      simp
    conv => whnf
    (refine runK_ret (ev_indexStr rfl rfl rfl hI0 hb) ?_)
    conv => whnf
    cases z0 : ↑b.toNat == Int.ofNat 0
    · conv => whnf
      (exact ih (IntKind.wrap .i64 (i + 1)) _ (hst ‹_›) hmu (by kernel_rfl))
    · conv => whnf
      (rw [hfa ‹_›])
set_option maxHeartbeats 4000000 in
theorem breaks_one (m : Nat) (from_ : FuncId) (h : H) (s : List UInt8) (tt : Bool) (hl : s.length ≤ 140737488351232) : evCall TE (m + 1) from_ (.fn 79 [] [.vref [(.sl [.int .u8 0] 1 tt)] 0]) [.str s] h = some (.ret (.bool (has s 0 || s == [])), h) := by
  obtain ⟨r, hr⟩ : ∃ r, r = (has s 0 || s == []) := ⟨_, rfl⟩
  rw [← hr]
  refine call_clean (fn := Try.f79) rfl Try.func79 rfl rfl rfl rfl rfl (Nat.le_of_ble_eq_true rfl) ?_
  conv => whnf
  (with_reducible refine ⟨(2 : Nat), ?_, ?_⟩; · exact Nat.le_of_ble_eq_true rfl)
  conv => whnf
  refine ⟨s.length + 1, by show s.length + 1 ≤ 4611686018427387904; omega, ?_⟩
  refine rounds_ind (hasS s 0 (.sl [.int .u8 0] 1 tt) 1 0) (fun i => 0 ≤ i ∧ i ≤ s.length ∧ has s 0 = has (s.drop i.toNat) 0) (fun i => (s.length - i).toNat) ?_ _ 0 _ ⟨by omega, by omega, rfl⟩ (by omega) (by kernel_rfl)
  intro i m' hI ih
  obtain ⟨hI0, hI1, hI2⟩ := hI
  conv => whnf
  cases h1 : decide (i < (s.length : Int)) with
  | false =>
    have h1 := of_decide_eq_false h1
    have hf0 : has s 0 = false := by rw [hI2, List.drop_eq_nil_of_le (by omega)]; rfl
    clear ih hI0 hI1 hI2 h1
    conv => whnf
    (rw [hr]; simp_all; done)
  | true =>
    have h1 := of_decide_eq_true h1
    obtain ⟨b, hb⟩ : ∃ b, s[i.toNat]? = some b := ⟨_, List.getElem?_eq_getElem (by omega)⟩
    rw [has_drop hb] at hI2
    have hw : IntKind.wrap .i64 (i + 1) = i + 1 := wrap64 (by omega) (by omega)
    have hmu : (s.length - IntKind.wrap .i64 (i + 1)).toNat < (s.length - i).toNat := by rw [hw]; omega
    have hst : ((b.toNat : Int) == 0) = false → 0 ≤ IntKind.wrap .i64 (i + 1) ∧ IntKind.wrap .i64 (i + 1) ≤ s.length ∧ has s 0 = has (s.drop (IntKind.wrap .i64 (i + 1)).toNat) 0 := by
      intro he
      rw [he, Bool.false_or] at hI2
      rw [hw, show (i + 1).toNat = i.toNat + 1 by omega]
      exact ⟨by omega, by omega, hI2⟩
    have hfa : ((b.toNat : Int) == 0) = true → r = true := by
      intro he
      rw [hr, hI2, he]
      simp
    conv => whnf
    (refine runK_ret (ev_indexStr rfl rfl rfl hI0 hb) ?_)
    conv => whnf
    cases z0 : ↑b.toNat == Int.ofNat 0
    · conv => whnf
      (exact ih (IntKind.wrap .i64 (i + 1)) _ (hst ‹_›) hmu (by kernel_rfl))
    · conv => whnf
      (rw [hfa ‹_›])
end Go.Proofs.Ytnkeijebkpjdgaa.Ab
/- Over the engine: names, paths; what nodes of a kind have. -/
namespace Go.Proofs.Ytnkeijebkpjdgaa.Ab
open Go Go.RowKit

set_option maxRecDepth 100000
def ruleA (row : AV) (most : Int) : AV := .agg [.fn 79 [] [.vref [row] 0], .int .u32 22, .fn 80 [] [.vref [.int .i64 most] 0], .int .u32 63]
theorem longer_c (m : Nat) (from_ : FuncId) (h : H) (s : List UInt8) (most : Int) : evCall TE (m + 1) from_ (.fn 80 [] [.vref [.int .i64 most] 0]) [.str s] h = some (.ret (.bool (decide ((s.length : Int) > most))), h) := by
  refine call_clean (fn := Try.f80) rfl Try.func80 rfl rfl rfl rfl rfl (Nat.le_of_ble_eq_true rfl) ?_
  conv => whnf
def nameSt (s : List UInt8) : Int := if (has s 0 || (has s 47 || s == [])) = true then 22 else if decide ((s.length : Int) > 255) = true then 63 else 0
def pathSt (s : List UInt8) : Int := if (has s 0 || s == []) = true then 22 else if decide ((s.length : Int) > 1024) = true then 63 else 0
theorem is_name (m : Nat) (from_ : FuncId) (h : H) (s : List UInt8) (hl : s.length ≤ 140737488351232) : evCall TE (m + 2) from_ (.fn 65 [] []) [.str s, ruleA (.sl [.int .u8 0, .int .u8 47] 2 true) 255] h = some (.ret (.int .u32 (nameSt s)), h) := by
  have c1 : ∀ (f : FuncId) (h : H), (evAll TE (m + 1)).1 f (.fn 79 [] [.vref [.sl [.int .u8 0, .int .u8 47] 2 true] 0]) [.str s] h = some (.ret (.bool (has s 0 || (has s 47 || s == []))), h) := fun f h => breaks_two m f h s true hl
  have c2 : ∀ (f : FuncId) (h : H), (evAll TE (m + 1)).1 f (.fn 80 [] [.vref [.int .i64 255] 0]) [.str s] h = some (.ret (.bool (decide ((s.length : Int) > 255))), h) := fun f h => longer_c m f h s 255
  obtain ⟨r, hr⟩ : ∃ r, r = nameSt s := ⟨_, rfl⟩
  rw [← hr]
  unfold nameSt at hr
  generalize (has s 0 || (has s 47 || s == [])) = q1 at c1 hr
  generalize decide ((s.length : Int) > 255) = q2 at c2 hr
  unfold ruleA
  refine call_clean (fn := Try.f65) rfl Try.func65 rfl rfl rfl rfl rfl (Nat.le_of_ble_eq_true rfl) ?_
  conv => whnf
  (with_reducible refine ⟨(3 : Nat), ?_, ?_⟩; · exact Nat.le_of_ble_eq_true rfl)
  conv => whnf
  with_reducible refine ⟨_, _, c1 _ _, ?_⟩
  conv => whnf
  cases q1
  · conv => whnf
    with_reducible refine ⟨_, _, c2 _ _, ?_⟩
    conv => whnf
    cases q2
    · conv => whnf
      (rw [hr]; simp_all; done)
    · conv => whnf
      (rw [hr]; simp_all; done)
  · conv => whnf
    (rw [hr]; simp_all; done)
theorem without_name (m : Nat) (from_ : FuncId) : evCall TE (m + 2) from_ (.fn 66 [] []) [.int .i64 255, .rsl 0 0 2 (some 2) 0] ⟨[.cells [.int .u8 0, .int .u8 47] ⟨false, 1, false, true⟩], []⟩ = some (.ret (ruleA (.sl [.int .u8 0, .int .u8 47] 2 true) 255), ⟨[.cells [.int .u8 0, .int .u8 47] ⟨true, 1, false, false⟩], []⟩) := by
  skip
  kernel_rfl
theorem is_path (m : Nat) (from_ : FuncId) (h : H) (s : List UInt8) (hl : s.length ≤ 140737488351232) : evCall TE (m + 2) from_ (.fn 65 [] []) [.str s, ruleA (.sl [.int .u8 0] 1 true) 1024] h = some (.ret (.int .u32 (pathSt s)), h) := by
  have c1 : ∀ (f : FuncId) (h : H), (evAll TE (m + 1)).1 f (.fn 79 [] [.vref [.sl [.int .u8 0] 1 true] 0]) [.str s] h = some (.ret (.bool (has s 0 || s == [])), h) := fun f h => breaks_one m f h s true hl
  have c2 : ∀ (f : FuncId) (h : H), (evAll TE (m + 1)).1 f (.fn 80 [] [.vref [.int .i64 1024] 0]) [.str s] h = some (.ret (.bool (decide ((s.length : Int) > 1024))), h) := fun f h => longer_c m f h s 1024
  obtain ⟨r, hr⟩ : ∃ r, r = pathSt s := ⟨_, rfl⟩
  rw [← hr]
  unfold pathSt at hr
  generalize (has s 0 || s == []) = q1 at c1 hr
  generalize decide ((s.length : Int) > 1024) = q2 at c2 hr
  unfold ruleA
  refine call_clean (fn := Try.f65) rfl Try.func65 rfl rfl rfl rfl rfl (Nat.le_of_ble_eq_true rfl) ?_
  conv => whnf
  (with_reducible refine ⟨(3 : Nat), ?_, ?_⟩; · exact Nat.le_of_ble_eq_true rfl)
  conv => whnf
  with_reducible refine ⟨_, _, c1 _ _, ?_⟩
  conv => whnf
  cases q1
  · conv => whnf
    with_reducible refine ⟨_, _, c2 _ _, ?_⟩
    conv => whnf
    cases q2
    · conv => whnf
      (rw [hr]; simp_all; done)
    · conv => whnf
      (rw [hr]; simp_all; done)
  · conv => whnf
    (rw [hr]; simp_all; done)
theorem without_path (m : Nat) (from_ : FuncId) : evCall TE (m + 2) from_ (.fn 66 [] []) [.int .i64 1024, .rsl 0 0 1 (some 1) 0] ⟨[.cells [.int .u8 0] ⟨false, 1, false, true⟩], []⟩ = some (.ret (ruleA (.sl [.int .u8 0] 1 true) 1024), ⟨[.cells [.int .u8 0] ⟨true, 1, false, false⟩], []⟩) := by
  skip
  kernel_rfl
theorem name_c (m : Nat) (from_ : FuncId) (h : H) (s : List UInt8) (hl : s.length ≤ 140737488351232) : evCall TE (m + 4) from_ (.fn 45 [] []) [.str s] h = some (.ret (.int .u32 (nameSt s)), h) := by
  have c1 : ∀ (f : FuncId), (evAll TE (m + 3)).1 f (.fn 66 [] []) [.int .i64 255, .rsl 0 0 2 (some 2) 0] ⟨[.cells [.int .u8 0, .int .u8 47] ⟨false, 1, false, true⟩], []⟩ = some (.ret (ruleA (.sl [.int .u8 0, .int .u8 47] 2 true) 255), ⟨[.cells [.int .u8 0, .int .u8 47] ⟨true, 1, false, false⟩], []⟩) := fun f => without_name (m + 1) f
  have c2 : ∀ (f : FuncId) (h : H), (evAll TE (m + 3)).1 f (.fn 65 [] []) [.str s, ruleA (.sl [.int .u8 0, .int .u8 47] 2 true) 255] h = some (.ret (.int .u32 (nameSt s)), h) := fun f h => is_name (m + 1) f h s hl
  generalize nameSt s = r at c2 ⊢
  unfold ruleA at c1 c2
  refine call_clean (fn := Try.f45) rfl Try.func45 rfl rfl rfl rfl rfl (Nat.le_of_ble_eq_true rfl) ?_
  conv => whnf
  (refine ⟨_, _, c1 _, ?_⟩)
  conv => whnf
  with_reducible refine ⟨_, _, c2 _ _, ?_⟩
  conv => whnf
theorem path_c (m : Nat) (from_ : FuncId) (h : H) (s : List UInt8) (hl : s.length ≤ 140737488351232) : evCall TE (m + 4) from_ (.fn 43 [] []) [.str s] h = some (.ret (.int .u32 (pathSt s)), h) := by
  have c1 : ∀ (f : FuncId), (evAll TE (m + 3)).1 f (.fn 66 [] []) [.int .i64 1024, .rsl 0 0 1 (some 1) 0] ⟨[.cells [.int .u8 0] ⟨false, 1, false, true⟩], []⟩ = some (.ret (ruleA (.sl [.int .u8 0] 1 true) 1024), ⟨[.cells [.int .u8 0] ⟨true, 1, false, false⟩], []⟩) := fun f => without_path (m + 1) f
  have c2 : ∀ (f : FuncId) (h : H), (evAll TE (m + 3)).1 f (.fn 65 [] []) [.str s, ruleA (.sl [.int .u8 0] 1 true) 1024] h = some (.ret (.int .u32 (pathSt s)), h) := fun f h => is_path (m + 1) f h s hl
  generalize pathSt s = r at c2 ⊢
  unfold ruleA at c1 c2
  refine call_clean (fn := Try.f43) rfl Try.func43 rfl rfl rfl rfl rfl (Nat.le_of_ble_eq_true rfl) ?_
  conv => whnf
  (refine ⟨_, _, c1 _, ?_⟩)
  conv => whnf
  with_reducible refine ⟨_, _, c2 _ _, ?_⟩
  conv => whnf
theorem is_c (m : Nat) (from_ : FuncId) (h : H) (ns : List NodeS) (t : Bool) (gen n k : Int) : evCall TE (m + 2) from_ (.fn 20 [] []) [.agg [.sl (nodesA ns) ns.length t, .int .u32 gen], .int .i64 n, .int .u32 k] h = some (.ret (.bool (thereS ns n && kindS ns n == k)), h) := by
  have c1 : ∀ (f : FuncId) (h : H), (evAll TE (m + 1)).1 f (.fn 21 [] []) [.agg [.sl (nodesA ns) ns.length t, .int .u32 gen], .int .i64 n] h = some (.ret (.bool (thereS ns n)), h) := fun f h => there_c m f h _ ns (.inr ⟨t, rfl⟩) gen n
  cases hn : thereS ns n with
  | false =>
    rw [hn] at c1
    refine call_clean (fn := Try.f20) rfl Try.func20 rfl rfl rfl rfl rfl (Nat.le_of_ble_eq_true rfl) ?_
    conv => whnf
    with_reducible refine ⟨_, _, c1 _ _, ?_⟩
    conv => whnf
    rfl
  | true =>
    rw [hn] at c1
    have hn2 := hn
    unfold thereS at hn2
    rw [Bool.and_eq_true, Bool.and_eq_true, decide_eq_true_eq, decide_eq_true_eq] at hn2
    have hn0 : 0 ≤ n := by omega
    have hn1 := hn2.2.1
    obtain ⟨x, hx⟩ : ∃ x, ns[n.toNat]? = some x := ⟨_, List.getElem?_eq_getElem (by omega)⟩
    have hk : kindS ns n = x.kind := by unfold kindS; rw [hx]
    rw [hk]
    refine call_clean (fn := Try.f20) rfl Try.func20 rfl rfl rfl rfl rfl (Nat.le_of_ble_eq_true rfl) ?_
    conv => whnf
    with_reducible refine ⟨_, _, c1 _ _, ?_⟩
    conv => whnf
    (refine runK_ret (ev_indexSl (sz := 25) rfl rfl rfl rfl hn0 hn1) ?_)
    conv => whnf
    (refine runK_ret (ev_loadV (z := 1) rfl rfl rfl ((nodesA_cell hx 0 (by decide)).trans rfl)) ?_)
    conv => whnf
    rfl
def zeroVerf (x : NodeS) : Bool := x.verf 0 == 0 && (x.verf 1 == 0 && (x.verf 2 == 0 && (x.verf 3 == 0 && (x.verf 4 == 0 && (x.verf 5 == 0 && (x.verf 6 == 0 && (x.verf 7 == 0 && true)))))))
def fileO (x : NodeS) : Bool := ((x.bytes.length : Int) == 0) && zeroVerf x
def listO (x : NodeS) : Bool := ((x.ents.length : Int) == 0) && (x.parent == 0 && x.next == 0)
def onlyS (x : NodeS) : Bool :=
  if (x.kind == 0) = true then fileO x && (x.target == [] && (listO x && ((bor .u32 (bor .u32 (bor .u32 x.gen x.mode) x.user) x.group == 0) && (x.links == 0 && ((x.rs == 0 && (x.rn == 0 && true)) && ((x.ws == 0 && (x.wn == 0 && true)) && (x.ts == 0 && (x.tn == 0 && true))))))))
  else if (x.kind == 1) = true then x.target == [] && (listO x && decide ((x.bytes.length : Int) ≤ 65536))
  else if (x.kind == 5) = true then fileO x && (listO x && pathSt x.target == 0)
  else x.kind == 2 && (fileO x && x.target == [])
set_option maxHeartbeats 8000000 in
theorem only_c (m : Nat) (from_ : FuncId) (h : H) (x : NodeS) (hx : x.ok) (hl : x.target.length ≤ 140737488351232) : evCall TE (m + 5) from_ (.fn 24 [] []) [.agg (nodeA x)] h = some (.ret (.bool (onlyS x)), h) := by
  have c1 : ∀ (f : FuncId) (h : H), (evAll TE (m + 4)).1 f (.fn 43 [] []) [.str x.target] h = some (.ret (.int .u32 (pathSt x.target)), h) := fun f h => path_c m f h x.target hl
  obtain ⟨r, hr⟩ : ∃ r, r = onlyS x := ⟨_, rfl⟩
  rw [← hr]
  unfold onlyS at hr
  obtain ⟨qp, hqp⟩ : ∃ q, q = pathSt x.target := ⟨_, rfl⟩
  rw [← hqp] at c1 hr
  clear hqp hl
  unfold fileO listO zeroVerf bor at hr
  obtain ⟨kd, ge, mo, us, ng, li, xrs, xrn, xws, xwn, ts, tn, da, by_, vf, ta, ls, es, pa, nx⟩ := x
  simp only [NodeS.ok, rowOk, entsOk] at hx
  obtain ⟨hd, hl⟩ := hx
  dsimp only at c1 hr
  rcases hd with ⟨rfl, rfl⟩ | ⟨dt, rfl⟩ <;> rcases hl with ⟨rfl, rfl⟩ | ⟨lt, rfl⟩
  all_goals refine call_clean (fn := Try.f24) rfl Try.func24 rfl rfl rfl rfl rfl (Nat.le_of_ble_eq_true rfl) ?_
  · conv => whnf
    cases z0 : pa == Int.ofNat 0
    · conv => whnf
      cases z1 : kd == Int.ofNat 0
      · conv => whnf
        cases z2 : kd == Int.ofNat 1
        · conv => whnf
          cases z3 : kd == Int.ofNat 5
          · conv => whnf
            cases z4 : kd == Int.ofNat 2
            · conv => whnf
              (rw [hr]; simp_all; done)
            · conv => whnf
              cases z5 : vf 0 == Int.ofNat 0 && (vf 1 == Int.ofNat 0 && (vf 2 == Int.ofNat 0 && (vf 3 == Int.ofNat 0 && (vf 4 == Int.ofNat 0 && (vf 5 == Int.ofNat 0 && (vf 6 == Int.ofNat 0 && (vf 7 == Int.ofNat 0 && true)))))))
              · conv => whnf
                (rw [hr]; simp_all; done)
              · conv => whnf
                (rw [hr]; simp_all; done)
          · conv => whnf
            cases z6 : vf 0 == Int.ofNat 0 && (vf 1 == Int.ofNat 0 && (vf 2 == Int.ofNat 0 && (vf 3 == Int.ofNat 0 && (vf 4 == Int.ofNat 0 && (vf 5 == Int.ofNat 0 && (vf 6 == Int.ofNat 0 && (vf 7 == Int.ofNat 0 && true)))))))
            · conv => whnf
              (rw [hr]; simp_all; done)
            · conv => whnf
              (rw [hr]; simp_all; done)
        · conv => whnf
          cases z7 : ta == []
          · conv => whnf
            (rw [hr]; simp_all; done)
          · conv => whnf
            (rw [hr]; simp_all; done)
      · conv => whnf
        cases z8 : vf 0 == Int.ofNat 0 && (vf 1 == Int.ofNat 0 && (vf 2 == Int.ofNat 0 && (vf 3 == Int.ofNat 0 && (vf 4 == Int.ofNat 0 && (vf 5 == Int.ofNat 0 && (vf 6 == Int.ofNat 0 && (vf 7 == Int.ofNat 0 && true)))))))
        · conv => whnf
          (rw [hr]; simp_all; done)
        · conv => whnf
          cases z9 : ta == []
          · conv => whnf
            (rw [hr]; simp_all; done)
          · conv => whnf
            (rw [hr]; simp_all; done)
    · conv => whnf
      cases z10 : kd == Int.ofNat 0
      · conv => whnf
        cases z11 : kd == Int.ofNat 1
        · conv => whnf
          cases z12 : kd == Int.ofNat 5
          · conv => whnf
            cases z13 : kd == Int.ofNat 2
            · conv => whnf
              (rw [hr]; simp_all; done)
            · conv => whnf
              cases z14 : vf 0 == Int.ofNat 0 && (vf 1 == Int.ofNat 0 && (vf 2 == Int.ofNat 0 && (vf 3 == Int.ofNat 0 && (vf 4 == Int.ofNat 0 && (vf 5 == Int.ofNat 0 && (vf 6 == Int.ofNat 0 && (vf 7 == Int.ofNat 0 && true)))))))
              · conv => whnf
                (rw [hr]; simp_all; done)
              · conv => whnf
                (rw [hr]; simp_all; done)
          · conv => whnf
            cases z15 : vf 0 == Int.ofNat 0 && (vf 1 == Int.ofNat 0 && (vf 2 == Int.ofNat 0 && (vf 3 == Int.ofNat 0 && (vf 4 == Int.ofNat 0 && (vf 5 == Int.ofNat 0 && (vf 6 == Int.ofNat 0 && (vf 7 == Int.ofNat 0 && true)))))))
            · conv => whnf
              (rw [hr]; simp_all; done)
            · conv => whnf
              cases z16 : nx == Int.ofNat 0
              · conv => whnf
                (rw [hr]; simp_all; done)
              · conv => whnf
                with_reducible refine ⟨_, _, c1 _ _, ?_⟩
                conv => whnf
                (rw [hr]; simp_all; done)
        · conv => whnf
          cases z17 : ta == []
          · conv => whnf
            (rw [hr]; simp_all; done)
          · conv => whnf
            cases z18 : nx == Int.ofNat 0
            · conv => whnf
              (rw [hr]; simp_all; done)
            · conv => whnf
              (rw [hr]; simp_all; done)
      · conv => whnf
        cases z19 : vf 0 == Int.ofNat 0 && (vf 1 == Int.ofNat 0 && (vf 2 == Int.ofNat 0 && (vf 3 == Int.ofNat 0 && (vf 4 == Int.ofNat 0 && (vf 5 == Int.ofNat 0 && (vf 6 == Int.ofNat 0 && (vf 7 == Int.ofNat 0 && true)))))))
        · conv => whnf
          (rw [hr]; simp_all; done)
        · conv => whnf
          cases z20 : ta == []
          · conv => whnf
            (rw [hr]; simp_all; done)
          · conv => whnf
            cases z21 : nx == Int.ofNat 0
            · conv => whnf
              (rw [hr]; simp_all; done)
            · conv => whnf
              cases z22 : IntKind.u32.wrap ↑(BitVec.ofInt IntKind.u32.bits (IntKind.u32.wrap ↑(BitVec.ofInt IntKind.u32.bits (IntKind.u32.wrap ↑(BitVec.ofInt IntKind.u32.bits ge ||| BitVec.ofInt IntKind.u32.bits mo).toNat) ||| BitVec.ofInt IntKind.u32.bits us).toNat) ||| BitVec.ofInt IntKind.u32.bits ng).toNat == Int.ofNat 0
              · conv => whnf
                (rw [hr]; simp_all; done)
              · conv => whnf
                cases z23 : li == Int.ofNat 0
                · conv => whnf
                  (rw [hr]; simp_all; done)
                · conv => whnf
                  cases z24 : xrs == Int.ofNat 0 && (xrn == Int.ofNat 0 && true)
                  · conv => whnf
                    (rw [hr]; simp_all; done)
                  · conv => whnf
                    cases z25 : xws == Int.ofNat 0 && (xwn == Int.ofNat 0 && true)
                    · conv => whnf
                      (rw [hr]; simp_all; done)
                    · conv => whnf
                      (rw [hr]; simp_all; done)
  · conv => whnf
    cases z0 : ↑es.length == Int.ofNat 0
    · conv => whnf
      cases z1 : kd == Int.ofNat 0
      · conv => whnf
        cases z2 : kd == Int.ofNat 1
        · conv => whnf
          cases z3 : kd == Int.ofNat 5
          · conv => whnf
            cases z4 : kd == Int.ofNat 2
            · conv => whnf
              (rw [hr]; simp_all; done)
            · conv => whnf
              cases z5 : vf 0 == Int.ofNat 0 && (vf 1 == Int.ofNat 0 && (vf 2 == Int.ofNat 0 && (vf 3 == Int.ofNat 0 && (vf 4 == Int.ofNat 0 && (vf 5 == Int.ofNat 0 && (vf 6 == Int.ofNat 0 && (vf 7 == Int.ofNat 0 && true)))))))
              · conv => whnf
                (rw [hr]; simp_all; done)
              · conv => whnf
                (rw [hr]; simp_all; done)
          · conv => whnf
            cases z6 : vf 0 == Int.ofNat 0 && (vf 1 == Int.ofNat 0 && (vf 2 == Int.ofNat 0 && (vf 3 == Int.ofNat 0 && (vf 4 == Int.ofNat 0 && (vf 5 == Int.ofNat 0 && (vf 6 == Int.ofNat 0 && (vf 7 == Int.ofNat 0 && true)))))))
            · conv => whnf
              (rw [hr]; simp_all; done)
            · conv => whnf
              (rw [hr]; simp_all; done)
        · conv => whnf
          cases z7 : ta == []
          · conv => whnf
            (rw [hr]; simp_all; done)
          · conv => whnf
            (rw [hr]; simp_all; done)
      · conv => whnf
        cases z8 : vf 0 == Int.ofNat 0 && (vf 1 == Int.ofNat 0 && (vf 2 == Int.ofNat 0 && (vf 3 == Int.ofNat 0 && (vf 4 == Int.ofNat 0 && (vf 5 == Int.ofNat 0 && (vf 6 == Int.ofNat 0 && (vf 7 == Int.ofNat 0 && true)))))))
        · conv => whnf
          (rw [hr]; simp_all; done)
        · conv => whnf
          cases z9 : ta == []
          · conv => whnf
            (rw [hr]; simp_all; done)
          · conv => whnf
            (rw [hr]; simp_all; done)
    · conv => whnf
      cases z10 : pa == Int.ofNat 0
      · conv => whnf
        cases z11 : kd == Int.ofNat 0
        · conv => whnf
          cases z12 : kd == Int.ofNat 1
          · conv => whnf
            cases z13 : kd == Int.ofNat 5
            · conv => whnf
              cases z14 : kd == Int.ofNat 2
              · conv => whnf
                (rw [hr]; simp_all; done)
              · conv => whnf
                cases z15 : vf 0 == Int.ofNat 0 && (vf 1 == Int.ofNat 0 && (vf 2 == Int.ofNat 0 && (vf 3 == Int.ofNat 0 && (vf 4 == Int.ofNat 0 && (vf 5 == Int.ofNat 0 && (vf 6 == Int.ofNat 0 && (vf 7 == Int.ofNat 0 && true)))))))
                · conv => whnf
                  (rw [hr]; simp_all; done)
                · conv => whnf
                  (rw [hr]; simp_all; done)
            · conv => whnf
              cases z16 : vf 0 == Int.ofNat 0 && (vf 1 == Int.ofNat 0 && (vf 2 == Int.ofNat 0 && (vf 3 == Int.ofNat 0 && (vf 4 == Int.ofNat 0 && (vf 5 == Int.ofNat 0 && (vf 6 == Int.ofNat 0 && (vf 7 == Int.ofNat 0 && true)))))))
              · conv => whnf
                (rw [hr]; simp_all; done)
              · conv => whnf
                (rw [hr]; simp_all; done)
          · conv => whnf
            cases z17 : ta == []
            · conv => whnf
              (rw [hr]; simp_all; done)
            · conv => whnf
              (rw [hr]; simp_all; done)
        · conv => whnf
          cases z18 : vf 0 == Int.ofNat 0 && (vf 1 == Int.ofNat 0 && (vf 2 == Int.ofNat 0 && (vf 3 == Int.ofNat 0 && (vf 4 == Int.ofNat 0 && (vf 5 == Int.ofNat 0 && (vf 6 == Int.ofNat 0 && (vf 7 == Int.ofNat 0 && true)))))))
          · conv => whnf
            (rw [hr]; simp_all; done)
          · conv => whnf
            cases z19 : ta == []
            · conv => whnf
              (rw [hr]; simp_all; done)
            · conv => whnf
              (rw [hr]; simp_all; done)
      · conv => whnf
        cases z20 : kd == Int.ofNat 0
        · conv => whnf
          cases z21 : kd == Int.ofNat 1
          · conv => whnf
            cases z22 : kd == Int.ofNat 5
            · conv => whnf
              cases z23 : kd == Int.ofNat 2
              · conv => whnf
                (rw [hr]; simp_all; done)
              · conv => whnf
                cases z24 : vf 0 == Int.ofNat 0 && (vf 1 == Int.ofNat 0 && (vf 2 == Int.ofNat 0 && (vf 3 == Int.ofNat 0 && (vf 4 == Int.ofNat 0 && (vf 5 == Int.ofNat 0 && (vf 6 == Int.ofNat 0 && (vf 7 == Int.ofNat 0 && true)))))))
                · conv => whnf
                  (rw [hr]; simp_all; done)
                · conv => whnf
                  (rw [hr]; simp_all; done)
            · conv => whnf
              cases z25 : vf 0 == Int.ofNat 0 && (vf 1 == Int.ofNat 0 && (vf 2 == Int.ofNat 0 && (vf 3 == Int.ofNat 0 && (vf 4 == Int.ofNat 0 && (vf 5 == Int.ofNat 0 && (vf 6 == Int.ofNat 0 && (vf 7 == Int.ofNat 0 && true)))))))
              · conv => whnf
                (rw [hr]; simp_all; done)
              · conv => whnf
                cases z26 : nx == Int.ofNat 0
                · conv => whnf
                  (rw [hr]; simp_all; done)
                · conv => whnf
                  with_reducible refine ⟨_, _, c1 _ _, ?_⟩
                  conv => whnf
                  (rw [hr]; simp_all; done)
          · conv => whnf
            cases z27 : ta == []
            · conv => whnf
              (rw [hr]; simp_all; done)
            · conv => whnf
              cases z28 : nx == Int.ofNat 0
              · conv => whnf
                (rw [hr]; simp_all; done)
              · conv => whnf
                (rw [hr]; simp_all; done)
        · conv => whnf
          cases z29 : vf 0 == Int.ofNat 0 && (vf 1 == Int.ofNat 0 && (vf 2 == Int.ofNat 0 && (vf 3 == Int.ofNat 0 && (vf 4 == Int.ofNat 0 && (vf 5 == Int.ofNat 0 && (vf 6 == Int.ofNat 0 && (vf 7 == Int.ofNat 0 && true)))))))
          · conv => whnf
            (rw [hr]; simp_all; done)
          · conv => whnf
            cases z30 : ta == []
            · conv => whnf
              (rw [hr]; simp_all; done)
            · conv => whnf
              cases z31 : nx == Int.ofNat 0
              · conv => whnf
                (rw [hr]; simp_all; done)
              · conv => whnf
                cases z32 : IntKind.u32.wrap ↑(BitVec.ofInt IntKind.u32.bits (IntKind.u32.wrap ↑(BitVec.ofInt IntKind.u32.bits (IntKind.u32.wrap ↑(BitVec.ofInt IntKind.u32.bits ge ||| BitVec.ofInt IntKind.u32.bits mo).toNat) ||| BitVec.ofInt IntKind.u32.bits us).toNat) ||| BitVec.ofInt IntKind.u32.bits ng).toNat == Int.ofNat 0
                · conv => whnf
                  (rw [hr]; simp_all; done)
                · conv => whnf
                  cases z33 : li == Int.ofNat 0
                  · conv => whnf
                    (rw [hr]; simp_all; done)
                  · conv => whnf
                    cases z34 : xrs == Int.ofNat 0 && (xrn == Int.ofNat 0 && true)
                    · conv => whnf
                      (rw [hr]; simp_all; done)
                    · conv => whnf
                      cases z35 : xws == Int.ofNat 0 && (xwn == Int.ofNat 0 && true)
                      · conv => whnf
                        (rw [hr]; simp_all; done)
                      · conv => whnf
                        (rw [hr]; simp_all; done)
  · conv => whnf
    cases z0 : ↑by_.length == Int.ofNat 0
    · conv => whnf
      cases z1 : pa == Int.ofNat 0
      · conv => whnf
        cases z2 : kd == Int.ofNat 0
        · conv => whnf
          cases z3 : kd == Int.ofNat 1
          · conv => whnf
            cases z4 : kd == Int.ofNat 5
            · conv => whnf
              cases z5 : kd == Int.ofNat 2
              · conv => whnf
                (rw [hr]; simp_all; done)
              · conv => whnf
                (rw [hr]; simp_all; done)
            · conv => whnf
              (rw [hr]; simp_all; done)
          · conv => whnf
            cases z6 : ta == []
            · conv => whnf
              (rw [hr]; simp_all; done)
            · conv => whnf
              (rw [hr]; simp_all; done)
        · conv => whnf
          (rw [hr]; simp_all; done)
      · conv => whnf
        cases z7 : kd == Int.ofNat 0
        · conv => whnf
          cases z8 : kd == Int.ofNat 1
          · conv => whnf
            cases z9 : kd == Int.ofNat 5
            · conv => whnf
              cases z10 : kd == Int.ofNat 2
              · conv => whnf
                (rw [hr]; simp_all; done)
              · conv => whnf
                (rw [hr]; simp_all; done)
            · conv => whnf
              (rw [hr]; simp_all; done)
          · conv => whnf
            cases z11 : ta == []
            · conv => whnf
              (rw [hr]; simp_all; done)
            · conv => whnf
              cases z12 : nx == Int.ofNat 0
              · conv => whnf
                (rw [hr]; simp_all; done)
              · conv => whnf
                (rw [hr]; simp_all; done)
        · conv => whnf
          (rw [hr]; simp_all; done)
    · conv => whnf
      cases z13 : pa == Int.ofNat 0
      · conv => whnf
        cases z14 : kd == Int.ofNat 0
        · conv => whnf
          cases z15 : kd == Int.ofNat 1
          · conv => whnf
            cases z16 : kd == Int.ofNat 5
            · conv => whnf
              cases z17 : kd == Int.ofNat 2
              · conv => whnf
                (rw [hr]; simp_all; done)
              · conv => whnf
                cases z18 : vf 0 == Int.ofNat 0 && (vf 1 == Int.ofNat 0 && (vf 2 == Int.ofNat 0 && (vf 3 == Int.ofNat 0 && (vf 4 == Int.ofNat 0 && (vf 5 == Int.ofNat 0 && (vf 6 == Int.ofNat 0 && (vf 7 == Int.ofNat 0 && true)))))))
                · conv => whnf
                  (rw [hr]; simp_all; done)
                · conv => whnf
                  (rw [hr]; simp_all; done)
            · conv => whnf
              cases z19 : vf 0 == Int.ofNat 0 && (vf 1 == Int.ofNat 0 && (vf 2 == Int.ofNat 0 && (vf 3 == Int.ofNat 0 && (vf 4 == Int.ofNat 0 && (vf 5 == Int.ofNat 0 && (vf 6 == Int.ofNat 0 && (vf 7 == Int.ofNat 0 && true)))))))
              · conv => whnf
                (rw [hr]; simp_all; done)
              · conv => whnf
                (rw [hr]; simp_all; done)
          · conv => whnf
            cases z20 : ta == []
            · conv => whnf
              (rw [hr]; simp_all; done)
            · conv => whnf
              (rw [hr]; simp_all; done)
        · conv => whnf
          cases z21 : vf 0 == Int.ofNat 0 && (vf 1 == Int.ofNat 0 && (vf 2 == Int.ofNat 0 && (vf 3 == Int.ofNat 0 && (vf 4 == Int.ofNat 0 && (vf 5 == Int.ofNat 0 && (vf 6 == Int.ofNat 0 && (vf 7 == Int.ofNat 0 && true)))))))
          · conv => whnf
            (rw [hr]; simp_all; done)
          · conv => whnf
            cases z22 : ta == []
            · conv => whnf
              (rw [hr]; simp_all; done)
            · conv => whnf
              (rw [hr]; simp_all; done)
      · conv => whnf
        cases z23 : kd == Int.ofNat 0
        · conv => whnf
          cases z24 : kd == Int.ofNat 1
          · conv => whnf
            cases z25 : kd == Int.ofNat 5
            · conv => whnf
              cases z26 : kd == Int.ofNat 2
              · conv => whnf
                (rw [hr]; simp_all; done)
              · conv => whnf
                cases z27 : vf 0 == Int.ofNat 0 && (vf 1 == Int.ofNat 0 && (vf 2 == Int.ofNat 0 && (vf 3 == Int.ofNat 0 && (vf 4 == Int.ofNat 0 && (vf 5 == Int.ofNat 0 && (vf 6 == Int.ofNat 0 && (vf 7 == Int.ofNat 0 && true)))))))
                · conv => whnf
                  (rw [hr]; simp_all; done)
                · conv => whnf
                  (rw [hr]; simp_all; done)
            · conv => whnf
              cases z28 : vf 0 == Int.ofNat 0 && (vf 1 == Int.ofNat 0 && (vf 2 == Int.ofNat 0 && (vf 3 == Int.ofNat 0 && (vf 4 == Int.ofNat 0 && (vf 5 == Int.ofNat 0 && (vf 6 == Int.ofNat 0 && (vf 7 == Int.ofNat 0 && true)))))))
              · conv => whnf
                (rw [hr]; simp_all; done)
              · conv => whnf
                cases z29 : nx == Int.ofNat 0
                · conv => whnf
                  (rw [hr]; simp_all; done)
                · conv => whnf
                  with_reducible refine ⟨_, _, c1 _ _, ?_⟩
                  conv => whnf
                  (rw [hr]; simp_all; done)
          · conv => whnf
            cases z30 : ta == []
            · conv => whnf
              (rw [hr]; simp_all; done)
            · conv => whnf
              cases z31 : nx == Int.ofNat 0
              · conv => whnf
                (rw [hr]; simp_all; done)
              · conv => whnf
                (rw [hr]; simp_all; done)
        · conv => whnf
          cases z32 : vf 0 == Int.ofNat 0 && (vf 1 == Int.ofNat 0 && (vf 2 == Int.ofNat 0 && (vf 3 == Int.ofNat 0 && (vf 4 == Int.ofNat 0 && (vf 5 == Int.ofNat 0 && (vf 6 == Int.ofNat 0 && (vf 7 == Int.ofNat 0 && true)))))))
          · conv => whnf
            (rw [hr]; simp_all; done)
          · conv => whnf
            cases z33 : ta == []
            · conv => whnf
              (rw [hr]; simp_all; done)
            · conv => whnf
              cases z34 : nx == Int.ofNat 0
              · conv => whnf
                (rw [hr]; simp_all; done)
              · conv => whnf
                cases z35 : IntKind.u32.wrap ↑(BitVec.ofInt IntKind.u32.bits (IntKind.u32.wrap ↑(BitVec.ofInt IntKind.u32.bits (IntKind.u32.wrap ↑(BitVec.ofInt IntKind.u32.bits ge ||| BitVec.ofInt IntKind.u32.bits mo).toNat) ||| BitVec.ofInt IntKind.u32.bits us).toNat) ||| BitVec.ofInt IntKind.u32.bits ng).toNat == Int.ofNat 0
                · conv => whnf
                  (rw [hr]; simp_all; done)
                · conv => whnf
                  cases z36 : li == Int.ofNat 0
                  · conv => whnf
                    (rw [hr]; simp_all; done)
                  · conv => whnf
                    cases z37 : xrs == Int.ofNat 0 && (xrn == Int.ofNat 0 && true)
                    · conv => whnf
                      (rw [hr]; simp_all; done)
                    · conv => whnf
                      cases z38 : xws == Int.ofNat 0 && (xwn == Int.ofNat 0 && true)
                      · conv => whnf
                        (rw [hr]; simp_all; done)
                      · conv => whnf
                        (rw [hr]; simp_all; done)
  · conv => whnf
    cases z0 : ↑by_.length == Int.ofNat 0
    · conv => whnf
      cases z1 : ↑es.length == Int.ofNat 0
      · conv => whnf
        cases z2 : kd == Int.ofNat 0
        · conv => whnf
          cases z3 : kd == Int.ofNat 1
          · conv => whnf
            cases z4 : kd == Int.ofNat 5
            · conv => whnf
              cases z5 : kd == Int.ofNat 2
              · conv => whnf
                (rw [hr]; simp_all; done)
              · conv => whnf
                (rw [hr]; simp_all; done)
            · conv => whnf
              (rw [hr]; simp_all; done)
          · conv => whnf
            cases z6 : ta == []
            · conv => whnf
              (rw [hr]; simp_all; done)
            · conv => whnf
              (rw [hr]; simp_all; done)
        · conv => whnf
          (rw [hr]; simp_all; done)
      · conv => whnf
        cases z7 : pa == Int.ofNat 0
        · conv => whnf
          cases z8 : kd == Int.ofNat 0
          · conv => whnf
            cases z9 : kd == Int.ofNat 1
            · conv => whnf
              cases z10 : kd == Int.ofNat 5
              · conv => whnf
                cases z11 : kd == Int.ofNat 2
                · conv => whnf
                  (rw [hr]; simp_all; done)
                · conv => whnf
                  (rw [hr]; simp_all; done)
              · conv => whnf
                (rw [hr]; simp_all; done)
            · conv => whnf
              cases z12 : ta == []
              · conv => whnf
                (rw [hr]; simp_all; done)
              · conv => whnf
                (rw [hr]; simp_all; done)
          · conv => whnf
            (rw [hr]; simp_all; done)
        · conv => whnf
          cases z13 : kd == Int.ofNat 0
          · conv => whnf
            cases z14 : kd == Int.ofNat 1
            · conv => whnf
              cases z15 : kd == Int.ofNat 5
              · conv => whnf
                cases z16 : kd == Int.ofNat 2
                · conv => whnf
                  (rw [hr]; simp_all; done)
                · conv => whnf
                  (rw [hr]; simp_all; done)
              · conv => whnf
                (rw [hr]; simp_all; done)
            · conv => whnf
              cases z17 : ta == []
              · conv => whnf
                (rw [hr]; simp_all; done)
              · conv => whnf
                cases z18 : nx == Int.ofNat 0
                · conv => whnf
                  (rw [hr]; simp_all; done)
                · conv => whnf
                  (rw [hr]; simp_all; done)
          · conv => whnf
            (rw [hr]; simp_all; done)
    · conv => whnf
      cases z19 : ↑es.length == Int.ofNat 0
      · conv => whnf
        cases z20 : kd == Int.ofNat 0
        · conv => whnf
          cases z21 : kd == Int.ofNat 1
          · conv => whnf
            cases z22 : kd == Int.ofNat 5
            · conv => whnf
              cases z23 : kd == Int.ofNat 2
              · conv => whnf
                (rw [hr]; simp_all; done)
              · conv => whnf
                cases z24 : vf 0 == Int.ofNat 0 && (vf 1 == Int.ofNat 0 && (vf 2 == Int.ofNat 0 && (vf 3 == Int.ofNat 0 && (vf 4 == Int.ofNat 0 && (vf 5 == Int.ofNat 0 && (vf 6 == Int.ofNat 0 && (vf 7 == Int.ofNat 0 && true)))))))
                · conv => whnf
                  (rw [hr]; simp_all; done)
                · conv => whnf
                  (rw [hr]; simp_all; done)
            · conv => whnf
              cases z25 : vf 0 == Int.ofNat 0 && (vf 1 == Int.ofNat 0 && (vf 2 == Int.ofNat 0 && (vf 3 == Int.ofNat 0 && (vf 4 == Int.ofNat 0 && (vf 5 == Int.ofNat 0 && (vf 6 == Int.ofNat 0 && (vf 7 == Int.ofNat 0 && true)))))))
              · conv => whnf
                (rw [hr]; simp_all; done)
              · conv => whnf
                (rw [hr]; simp_all; done)
          · conv => whnf
            cases z26 : ta == []
            · conv => whnf
              (rw [hr]; simp_all; done)
            · conv => whnf
              (rw [hr]; simp_all; done)
        · conv => whnf
          cases z27 : vf 0 == Int.ofNat 0 && (vf 1 == Int.ofNat 0 && (vf 2 == Int.ofNat 0 && (vf 3 == Int.ofNat 0 && (vf 4 == Int.ofNat 0 && (vf 5 == Int.ofNat 0 && (vf 6 == Int.ofNat 0 && (vf 7 == Int.ofNat 0 && true)))))))
          · conv => whnf
            (rw [hr]; simp_all; done)
          · conv => whnf
            cases z28 : ta == []
            · conv => whnf
              (rw [hr]; simp_all; done)
            · conv => whnf
              (rw [hr]; simp_all; done)
      · conv => whnf
        cases z29 : pa == Int.ofNat 0
        · conv => whnf
          cases z30 : kd == Int.ofNat 0
          · conv => whnf
            cases z31 : kd == Int.ofNat 1
            · conv => whnf
              cases z32 : kd == Int.ofNat 5
              · conv => whnf
                cases z33 : kd == Int.ofNat 2
                · conv => whnf
                  (rw [hr]; simp_all; done)
                · conv => whnf
                  cases z34 : vf 0 == Int.ofNat 0 && (vf 1 == Int.ofNat 0 && (vf 2 == Int.ofNat 0 && (vf 3 == Int.ofNat 0 && (vf 4 == Int.ofNat 0 && (vf 5 == Int.ofNat 0 && (vf 6 == Int.ofNat 0 && (vf 7 == Int.ofNat 0 && true)))))))
                  · conv => whnf
                    (rw [hr]; simp_all; done)
                  · conv => whnf
                    (rw [hr]; simp_all; done)
              · conv => whnf
                cases z35 : vf 0 == Int.ofNat 0 && (vf 1 == Int.ofNat 0 && (vf 2 == Int.ofNat 0 && (vf 3 == Int.ofNat 0 && (vf 4 == Int.ofNat 0 && (vf 5 == Int.ofNat 0 && (vf 6 == Int.ofNat 0 && (vf 7 == Int.ofNat 0 && true)))))))
                · conv => whnf
                  (rw [hr]; simp_all; done)
                · conv => whnf
                  (rw [hr]; simp_all; done)
            · conv => whnf
              cases z36 : ta == []
              · conv => whnf
                (rw [hr]; simp_all; done)
              · conv => whnf
                (rw [hr]; simp_all; done)
          · conv => whnf
            cases z37 : vf 0 == Int.ofNat 0 && (vf 1 == Int.ofNat 0 && (vf 2 == Int.ofNat 0 && (vf 3 == Int.ofNat 0 && (vf 4 == Int.ofNat 0 && (vf 5 == Int.ofNat 0 && (vf 6 == Int.ofNat 0 && (vf 7 == Int.ofNat 0 && true)))))))
            · conv => whnf
              (rw [hr]; simp_all; done)
            · conv => whnf
              cases z38 : ta == []
              · conv => whnf
                (rw [hr]; simp_all; done)
              · conv => whnf
                (rw [hr]; simp_all; done)
        · conv => whnf
          cases z39 : kd == Int.ofNat 0
          · conv => whnf
            cases z40 : kd == Int.ofNat 1
            · conv => whnf
              cases z41 : kd == Int.ofNat 5
              · conv => whnf
                cases z42 : kd == Int.ofNat 2
                · conv => whnf
                  (rw [hr]; simp_all; done)
                · conv => whnf
                  cases z43 : vf 0 == Int.ofNat 0 && (vf 1 == Int.ofNat 0 && (vf 2 == Int.ofNat 0 && (vf 3 == Int.ofNat 0 && (vf 4 == Int.ofNat 0 && (vf 5 == Int.ofNat 0 && (vf 6 == Int.ofNat 0 && (vf 7 == Int.ofNat 0 && true)))))))
                  · conv => whnf
                    (rw [hr]; simp_all; done)
                  · conv => whnf
                    (rw [hr]; simp_all; done)
              · conv => whnf
                cases z44 : vf 0 == Int.ofNat 0 && (vf 1 == Int.ofNat 0 && (vf 2 == Int.ofNat 0 && (vf 3 == Int.ofNat 0 && (vf 4 == Int.ofNat 0 && (vf 5 == Int.ofNat 0 && (vf 6 == Int.ofNat 0 && (vf 7 == Int.ofNat 0 && true)))))))
                · conv => whnf
                  (rw [hr]; simp_all; done)
                · conv => whnf
                  cases z45 : nx == Int.ofNat 0
                  · conv => whnf
                    (rw [hr]; simp_all; done)
                  · conv => whnf
                    with_reducible refine ⟨_, _, c1 _ _, ?_⟩
                    conv => whnf
                    (rw [hr]; simp_all; done)
            · conv => whnf
              cases z46 : ta == []
              · conv => whnf
                (rw [hr]; simp_all; done)
              · conv => whnf
                cases z47 : nx == Int.ofNat 0
                · conv => whnf
                  (rw [hr]; simp_all; done)
                · conv => whnf
                  (rw [hr]; simp_all; done)
          · conv => whnf
            cases z48 : vf 0 == Int.ofNat 0 && (vf 1 == Int.ofNat 0 && (vf 2 == Int.ofNat 0 && (vf 3 == Int.ofNat 0 && (vf 4 == Int.ofNat 0 && (vf 5 == Int.ofNat 0 && (vf 6 == Int.ofNat 0 && (vf 7 == Int.ofNat 0 && true)))))))
            · conv => whnf
              (rw [hr]; simp_all; done)
            · conv => whnf
              cases z49 : ta == []
              · conv => whnf
                (rw [hr]; simp_all; done)
              · conv => whnf
                cases z50 : nx == Int.ofNat 0
                · conv => whnf
                  (rw [hr]; simp_all; done)
                · conv => whnf
                  cases z51 : IntKind.u32.wrap ↑(BitVec.ofInt IntKind.u32.bits (IntKind.u32.wrap ↑(BitVec.ofInt IntKind.u32.bits (IntKind.u32.wrap ↑(BitVec.ofInt IntKind.u32.bits ge ||| BitVec.ofInt IntKind.u32.bits mo).toNat) ||| BitVec.ofInt IntKind.u32.bits us).toNat) ||| BitVec.ofInt IntKind.u32.bits ng).toNat == Int.ofNat 0
                  · conv => whnf
                    (rw [hr]; simp_all; done)
                  · conv => whnf
                    cases z52 : li == Int.ofNat 0
                    · conv => whnf
                      (rw [hr]; simp_all; done)
                    · conv => whnf
                      cases z53 : xrs == Int.ofNat 0 && (xrn == Int.ofNat 0 && true)
                      · conv => whnf
                        (rw [hr]; simp_all; done)
                      · conv => whnf
                        cases z54 : xws == Int.ofNat 0 && (xwn == Int.ofNat 0 && true)
                        · conv => whnf
                          (rw [hr]; simp_all; done)
                        · conv => whnf
                          (rw [hr]; simp_all; done)
end Go.Proofs.Ytnkeijebkpjdgaa.Ab
/- Over the engine: directories within one another. -/
namespace Go.Proofs.Ytnkeijebkpjdgaa.Ab
open Go Go.RowKit

set_option maxRecDepth 100000
/-- A loop whose state is told by what turns of the one that it began with. -/
theorem rounds_at {α : Type} {f : ST → (AX → ST → Prop) → Prop} {ks : Option (List Nat)} {n : Nat} {Q : AX → ST → Prop} (upd : ST → α → ST) (I : α → Prop) (μ : α → Nat) {s : ST} (m : Nat) (a : α) (ha : I a) (hm : μ a < m) (h0 : s.norm ks n = upd s a)
    (step : ∀ a m, I a → (∀ a' s', I a' → μ a' < μ a → s'.norm ks n = upd s a' → roundsK f (normK ks n) Q m s') → f (upd s a) fun x s' => match x with
      | .normal => roundsK f (normK ks n) Q m s'
      | x => Q x s') : roundsK f (normK ks n) Q m s := rounds_ind (upd s) I μ step m a s ha hm h0
def parentS (ns : List NodeS) (d : Int) : Int := match ns[d.toNat]? with
  | some x => x.parent
  | none => 0
def dirS (ns : List NodeS) (d : Int) : Bool := thereS ns d && kindS ns d == 2
def withinS (ns : List NodeS) (top : Int) : Nat → Int → Bool
  | 0, _ => false
  | k + 1, d => if dirS ns d = true then if (d == top) = true then true else if (d == 1) = true then false else withinS ns top k (parentS ns d) else false
set_option maxHeartbeats 8000000 in
theorem within_c (m : Nat) (from_ : FuncId) (h : H) (ns : List NodeS) (t : Bool) (gen d top : Int) (hl : ns.length ≤ 140737488351232) : evCall TE (m + 5) from_ (.fn 28 [] []) [.agg [.sl (nodesA ns) ns.length t, .int .u32 gen], .int .i64 d, .int .i64 top] h = some (.ret (.bool (withinS ns top (ns.length + 1) d)), h) := by
  have c1 : ∀ (f : FuncId) (h : H) (d : Int), (evAll TE (m + 3)).1 f (.fn 20 [] []) [.agg [.sl (nodesA ns) ns.length t, .int .u32 gen], .int .i64 d, .int .u32 2] h = some (.ret (.bool (dirS ns d)), h) := fun f h d => is_c (m + 1) f h ns t gen d 2
  obtain ⟨r, hr⟩ : ∃ r, r = withinS ns top (ns.length + 1) d := ⟨_, rfl⟩
  rw [← hr]
  have hw0 : IntKind.wrap .i64 ((ns.length : Int) + 1) = ns.length + 1 := wrap64 (by omega) (by omega)
  refine call_clean (fn := Try.f28) rfl Try.func28 rfl rfl rfl rfl rfl (Nat.le_of_ble_eq_true rfl) ?_
  conv => whnf
  (refine call_raw (fn := Try.f46) rfl Try.func46 rfl rfl (Nat.le_of_ble_eq_true rfl) ?_)
  conv => whnf
  (refine range_K ?_)
  conv => whnf
  (refine call_inline (fn := Try.f67) rfl Try.func67 rfl rfl ?_)
  conv => whnf
  rw [hw0]
  refine ⟨ns.length + 2, by show ns.length + 2 ≤ 4611686018427387904; omega, ?_⟩
  refine rounds_at (fun s (a : Int × Int) => ⟨RG.of 31 [(8, .int .i64 a.1), (7, .int .i64 ((ns.length : Int) + 1)), (2, .ref 4 0 0), (1, .ref 3 0 0), (0, .yc 5)], ⟨s.h.bs.set 4 (.cells [.int .i64 a.2] ⟨false, 0, false, true⟩), s.h.esc⟩⟩) (fun a => 0 ≤ a.1 ∧ a.1 ≤ ns.length + 1 ∧ r = withinS ns top (ns.length + 1 - a.1).toNat a.2) (fun a => (ns.length + 1 - a.1).toNat) _ (0, d) ⟨by omega, by omega, hr⟩ (by simp only; omega) (by kernel_rfl) ?_
  intro a m' hI ih
  obtain ⟨i, d'⟩ := a
  dsimp only at hI ih ⊢
  obtain ⟨hI0, hI1, hI2⟩ := hI
  clear hr
  conv => whnf
  cases h1 : decide (i < (ns.length : Int) + 1) with
  | false =>
    have h1 := of_decide_eq_false h1
    rw [show (ns.length + 1 - i).toNat = 0 by omega] at hI2
    clear ih
    conv => whnf
    (rw [hI2]; rfl)
  | true =>
    have h1 := of_decide_eq_true h1
    have hw : IntKind.wrap .i64 (i + 1) = i + 1 := wrap64 (by omega) (by omega)
    have hmu : (ns.length + 1 - IntKind.wrap .i64 (i + 1)).toNat < (ns.length + 1 - i).toNat := by rw [hw]; omega
    obtain ⟨k, hk⟩ : ∃ k, (ns.length + 1 - i).toNat = k + 1 := ⟨(ns.length + 1 - i).toNat - 1, by omega⟩
    have hk2 : (ns.length + 1 - IntKind.wrap .i64 (i + 1)).toNat = k := by rw [hw]; omega
    rw [hk, withinS] at hI2
    have hwa : 0 ≤ IntKind.wrap .i64 (i + 1) ∧ IntKind.wrap .i64 (i + 1) ≤ ns.length + 1 := by rw [hw]; omega
    have c2 := fun f h => c1 f h d'
    cases hd : dirS ns d' with
    | false =>
      rw [hd] at c2 hI2
      clear ih
      conv => whnf
      with_reducible refine ⟨_, _, c2 _ _, ?_⟩
      conv => whnf
      (rw [hI2]; rfl)
    | true =>
      rw [hd, if_pos rfl] at hI2
      rw [hd] at c2
      have hd2 := hd
      unfold dirS thereS at hd2
      rw [Bool.and_eq_true, Bool.and_eq_true, Bool.and_eq_true, decide_eq_true_eq, decide_eq_true_eq] at hd2
      have hd0 : 0 ≤ d' := by omega
      have hd1 := hd2.1.2.1
      obtain ⟨x, hx⟩ : ∃ x, ns[d'.toNat]? = some x := ⟨_, List.getElem?_eq_getElem (by omega)⟩
      have hp : parentS ns d' = x.parent := by unfold parentS; rw [hx]
      rw [hp] at hI2
      clear hd2
      cases q1 : (d' == top) with
      | true =>
        rw [q1, if_pos rfl] at hI2
        clear ih
        conv => whnf
        with_reducible refine ⟨_, _, c2 _ _, ?_⟩
        conv => whnf
        (refine yield_K ?_)
        conv => whnf
        ((with_reducible cases z0 : d' == top) <;> try exact Bool.noConfusion (Eq.trans (Eq.symm z0) q1))
        conv => whnf
        (rw [hI2])
      | false =>
        rw [q1, if_neg (fun h => Bool.noConfusion h)] at hI2
        cases q2 : (d' == (1 : Int)) with
        | true =>
          rw [q2, if_pos rfl] at hI2
          clear ih
          conv => whnf
          with_reducible refine ⟨_, _, c2 _ _, ?_⟩
          conv => whnf
          (refine yield_K ?_)
          conv => whnf
          ((with_reducible cases z0 : d' == top) <;> try exact Bool.noConfusion (Eq.trans (Eq.symm z0) q1))
          conv => whnf
          ((with_reducible cases z1 : d' == Int.ofNat 1) <;> try exact Bool.noConfusion (Eq.trans (Eq.symm z1) q2))
          conv => whnf
          (rw [hI2])
        | false =>
          rw [q2, if_neg (fun h => Bool.noConfusion h)] at hI2
          conv => whnf
          with_reducible refine ⟨_, _, c2 _ _, ?_⟩
          conv => whnf
          (refine yield_K ?_)
          conv => whnf
          ((with_reducible cases z0 : d' == top) <;> try exact Bool.noConfusion (Eq.trans (Eq.symm z0) q1))
          conv => whnf
          ((with_reducible cases z1 : d' == Int.ofNat 1) <;> try exact Bool.noConfusion (Eq.trans (Eq.symm z1) q2))
          conv => whnf
          (refine runK_ret (ev_indexSl (sz := 25) rfl rfl rfl rfl hd0 hd1) ?_)
          conv => whnf
          (refine runK_ret (ev_loadV (z := 1) rfl rfl rfl ((nodesA_cell hx 23 (by decide)).trans rfl)) ?_)
          conv => whnf
          (exact ih (IntKind.wrap .i64 (i + 1), x.parent) _ ⟨hwa.1, hwa.2, by rw [hk2]; exact hI2⟩ hmu (by kernel_rfl))
end Go.Proofs.Ytnkeijebkpjdgaa.Ab
/- Over the engine: a tree in memory of its own. -/
namespace Go.Proofs.Ytnkeijebkpjdgaa.Ab
open Go Go.RowKit

set_option maxRecDepth 100000
section
variable {P : Program} {flat : TypeId → Option (List Nat)} {nid : Nat} {ρ : Operand → AV}
theorem ev_clipR {t e : TypeId} {sz n b ver : Nat} {a hi mx : Operand} {k k' : IntKind} (ht : P.underlying t = some (.slice e)) (hs : szOf P e = some sz) (ha : ρ a = .rsl b 0 n none ver) (hh : ρ hi = .int k n) (hm : ρ mx = .int k' n) :
    evOp P flat nid (.slice t a none (some hi) (some mx)) ρ = .ret (.rsl b 0 n (some n) ver, .none) := by
  have h1 : 0 ≤ (n : Int) ∧ (n : Int) ≤ n := ⟨by omega, Int.le_refl _⟩
  simp only [evOp, sliceA, ht, ha, hs, Option.map_some, Option.map_none, boundsA, boundA, hh, hm, Option.getD_none]
  rw [if_pos h1]
  simp only [Int.toNat_natCast]
  rw [if_pos h1]
  simp [capS]
end
theorem seal_agg1 {d : List AB → List AV → List AV × List AB} {bs bs' : List AB} {v v' : AV} {k : IntKind} {g : Int} (h : sealV d bs v = (v', bs')) : sealV d bs (.agg [v, .int k g]) = (.agg [v', .int k g], bs') := by
  simp only [sealV, sealVL, h]
set_option maxHeartbeats 8000000 in
theorem twinL_c (m : Nat) (h : H) (ns : List NodeS) (t : Bool) (gen : Int) (hok : ∀ x ∈ ns, x.fit) (hlen : ns.length ≤ 1025) (hlen2 : ns ≠ []) :
    evCall TE (m + 2) 9 (.fn 30 [] []) [.agg [.sl (nodesA ns) ns.length t, .int .u32 gen]] h = some (.ret (.agg [.sl (nodesA (ns.map cloneN)) ns.length true, .int .u32 gen]), h) := by
  have kb1 : ∀ (f : FuncId) (h : H) (a : Int) (l : List Int) (t : Bool), (a :: l).length ≤ 140737488351232 → (evAll TE (m + 1)).1 f (.fn 50 [] []) [.sl (numsA .u8 (a :: l)) (a :: l).length t] h = some (.ret (.sl (numsA .u8 (a :: l)) (a :: l).length false), h) := fun f h a l t hl => bytesClone_c m f h a l t (by omega)
  have kb2 : ∀ (f : FuncId) (h : H) (t : Bool), (evAll TE (m + 1)).1 f (.fn 50 [] []) [.sl [] 0 t] h = some (.ret (.sl [] 0 true), h) := fun f h t => bytesClone_0 m f h t
  have kb3 : ∀ (f : FuncId) (h : H), (evAll TE (m + 1)).1 f (.fn 50 [] []) [.sl0] h = some (.ret .sl0, h) := fun f h => bytesClone_nil m f h
  have kb4 : ∀ (f : FuncId) (h : H) (l : List Int) (t : Bool), (evAll TE (m + 1)).1 f (.fn 49 [] []) [.sl (numsA .u8 l) l.length t] h = some (.ret (.sl (numsA .u8 l) l.length true), h) := fun f h l t => bytesClip_c m f h l t
  have kb5 : ∀ (f : FuncId) (h : H) (t : Bool), (evAll TE (m + 1)).1 f (.fn 49 [] []) [.sl [] 0 t] h = some (.ret (.sl [] 0 true), h) := fun f h t => bytesClip_0 m f h t
  have kb6 : ∀ (f : FuncId) (h : H), (evAll TE (m + 1)).1 f (.fn 49 [] []) [.sl0] h = some (.ret .sl0, h) := fun f h => bytesClip_nil m f h
  have ke1 : ∀ (f : FuncId) (h : H) (a : EntryS) (l : List EntryS) (t : Bool), (a :: l).length * 32 ≤ 140737488351232 → (evAll TE (m + 1)).1 f (.fn 52 [] []) [.sl (entriesA (a :: l)) (a :: l).length t] h = some (.ret (.sl (entriesA (a :: l)) (a :: l).length false), h) := fun f h a l t hl => entsClone_c m f h a l t (by omega)
  have ke2 : ∀ (f : FuncId) (h : H) (t : Bool), (evAll TE (m + 1)).1 f (.fn 52 [] []) [.sl [] 0 t] h = some (.ret (.sl [] 0 true), h) := fun f h t => entsClone_0 m f h t
  have ke3 : ∀ (f : FuncId) (h : H), (evAll TE (m + 1)).1 f (.fn 52 [] []) [.sl0] h = some (.ret .sl0, h) := fun f h => entsClone_nil m f h
  have ke4 : ∀ (f : FuncId) (h : H) (l : List EntryS) (t : Bool), (evAll TE (m + 1)).1 f (.fn 51 [] []) [.sl (entriesA l) l.length t] h = some (.ret (.sl (entriesA l) l.length true), h) := fun f h l t => entsClip_c m f h l t
  have ke5 : ∀ (f : FuncId) (h : H) (t : Bool), (evAll TE (m + 1)).1 f (.fn 51 [] []) [.sl [] 0 t] h = some (.ret (.sl [] 0 true), h) := fun f h t => entsClip_0 m f h t
  have ke6 : ∀ (f : FuncId) (h : H), (evAll TE (m + 1)).1 f (.fn 51 [] []) [.sl0] h = some (.ret .sl0, h) := fun f h => entsClip_nil m f h
  have hnl : 0 < ns.length := List.length_pos_iff.2 hlen2
  have hle : (ns.length : Int) ≤ ns.length := Int.le_refl _
  have hle0 : (0 : Int) ≤ ns.length := by omega
  refine call_cleanE (fn := Try.f30) rfl Try.func30 rfl rfl rfl rfl rfl (Nat.le_of_ble_eq_true rfl) ?_
  intro End hE
  conv => whnf
  (refine call_raw (fn := Try.f48) rfl Try.func48 rfl rfl (Nat.le_of_ble_eq_true rfl) ?_)
  conv => whnf
  (refine runK_append_new (sz := 25) (by_ := 144) rfl rfl rfl rfl rfl rfl rfl rfl rfl hnl (nodesA_len ns) (by omega) (by omega) (by decide) rfl ?_)
  conv => whnf
  (refine call_raw (fn := Try.f47) rfl Try.func47 rfl rfl (Nat.le_of_ble_eq_true rfl) ?_)
  conv => whnf
  (refine runK_ret (ev_clipR (sz := 25) rfl rfl rfl rfl rfl) ?_)
  conv => whnf
  refine ⟨ns.length + 1, by show ns.length + 1 ≤ 4611686018427387904; omega, ?_⟩
  refine rounds_at (fun s (a : Int × List NodeS) => ⟨RG.of 38 [(13, .int .i64 a.1), (12, .int .i64 ns.length), (11, .rsl 3 0 ns.length (some ns.length) ((nodesA ns).length + 1)), (2, .ref 1 0 0), (1, .ref 0 0 0)], ⟨s.h.bs.set 3 (.cells (nodesA a.2) ⟨false, 25, true, true⟩), s.h.esc⟩⟩) (fun a => 0 ≤ a.1 ∧ a.1 ≤ ns.length ∧ a.2 = midN ns a.1.toNat) (fun a => (ns.length - a.1).toNat) _ (0, ns) ⟨by simp only; omega, by simp only; omega, (midN_zero ns).symm⟩ (by show ((ns.length : Int) - 0).toNat < ns.length + 1; omega) (by kernel_rfl) ?_
  intro a m' hI ih
  obtain ⟨i, l⟩ := a
  dsimp only at hI ih ⊢
  obtain ⟨hI0, hI1, hI2⟩ := hI
  have hll : l.length = ns.length := by rw [hI2, midN_len]
  have hvv : ((nodesA ns).length + 1) = (nodesA l).length + 1 := by rw [nodesA_len, nodesA_len, hll]
  conv => whnf
  cases h1 : decide (i < (ns.length : Int)) with
  | false =>
    have h1 := of_decide_eq_false h1
    rw [midN_all ns (by omega)] at hI2
    have hLl : (nodesA l).length = ns.length * 25 := by rw [nodesA_len, hll]
    have hcl : cleanL (nodesA l) = true := by
      rw [hI2]
      refine nodesA_clean fun z hz => ?_
      obtain ⟨y, hy, rfl⟩ := List.mem_map.1 hz
      exact ⟨row_clean (bytesC_ok (hok y hy).1.1), ents_clean (entsC_ok (hok y hy).1.2)⟩
    clear ih
    conv => whnf
    (refine hE _ _ [.agg [.rsl 3 0 ns.length (some ns.length) ((nodesA ns).length + 1), .int .u32 gen]] _ _ (.inr rfl) (by kernel_rfl) (leaveA_of (seal_agg1 (seal_deep rfl hvv rfl rfl (sealVL_clean _ _ _ hcl) rfl hcl rfl rfl rfl rfl rfl hLl (Nat.le_of_ble_eq_true rfl))) rfl rfl) ?_)
    conv => whnf
    (simp only [tightA, decide_true, hI2])
  | true =>
    have h1 := of_decide_eq_true h1
    have h3 : i.toNat < ns.length := by omega
    obtain ⟨x, hx⟩ : ∃ x, ns[i.toNat]? = some x := ⟨_, List.getElem?_eq_getElem h3⟩
    have hxl : l[i.toNat]? = some x := by rw [hI2]; exact midN_get hx
    have hw : IntKind.wrap .i64 (i + 1) = i + 1 := wrap64 (by omega) (by omega)
    have hmu : (ns.length - IntKind.wrap .i64 (i + 1)).toNat < (ns.length - i).toNat := by rw [hw]; omega
    have hst : 0 ≤ IntKind.wrap .i64 (i + 1) ∧ IntKind.wrap .i64 (i + 1) ≤ ns.length ∧ l.set i.toNat (cloneN x) = midN ns (IntKind.wrap .i64 (i + 1)).toNat := by
      rw [hw, show (i + 1).toNat = i.toNat + 1 by omega, hI2]
      exact ⟨by omega, by omega, midN_set hx⟩
    have hst2 : ∀ y, 0 ≤ IntKind.wrap .i64 (i + 1) ∧ IntKind.wrap .i64 (i + 1) ≤ ns.length ∧ (l.set i.toNat y).set i.toNat (cloneN x) = midN ns (IntKind.wrap .i64 (i + 1)).toNat := fun y => by
      rw [List.set_set]
      exact hst
    have hget : ∀ y, (l.set i.toNat y)[i.toNat]? = some y := fun y => by rw [List.getElem?_set_self (by omega)]
    have hlen2 : ∀ y, (l.set i.toNat y).length = ns.length := fun y => by rw [List.length_set, hll]
    have hvv2 : ∀ y, ((nodesA ns).length + 1) = (nodesA (l.set i.toNat y)).length + 1 := fun y => by rw [nodesA_len, nodesA_len, hlen2]
    have hf1 : 0 + i.toNat * 25 + 12 + 1 ≤ (nodesA l).length := by rw [nodesA_len]; omega
    have hf2 : ∀ y, 0 + i.toNat * 25 + 22 + 1 ≤ (nodesA (l.set i.toNat y)).length := fun y => by rw [nodesA_len, hlen2]; omega
    have hc1 : 0 + i.toNat * 25 + 25 ≤ (nodesA l).length := by rw [nodesA_len]; omega
    have hd1 : ((nodesA l).drop (0 + i.toNat * 25)).take 25 = nodeA x := by rw [Nat.zero_add]; exact nodesA_node hxl
    obtain ⟨hxo, hxr⟩ := hok x (List.mem_of_getElem? hx)
    have hb1 := hxr.1
    have hb2 := hxr.2
    clear hxr hok hI2
    obtain ⟨kd, ge, mo, us, ng, li, xrs, xrn, xws, xwn, ts, tn, da, by_, vf, ta, ls, es, pa, nx⟩ := x
    obtain ⟨hd3, hd4⟩ := hxo
    dsimp only at hb1 hb2
    unfold nodeA at hd1
    dsimp only at hd1
    rcases bytes_three hd3 with ⟨rfl, rfl⟩ | ⟨dt, rfl, rfl⟩ | ⟨da, dr, dt, rfl, rfl⟩ <;> rcases ents_three hd4 with ⟨rfl, rfl⟩ | ⟨lt, rfl, rfl⟩ | ⟨la, lr, lt, rfl, rfl⟩
    · conv => whnf
      (refine runK_ret (ev_indexRsl (sz := 25) rfl rfl rfl rfl hI0 h1) ?_)
      conv => whnf
      (refine runK_if hvv (runK_cells rfl hc1 hd1 (runK_ret rfl ?_)))
      conv => whnf
      with_reducible refine ⟨_, _, kb3 _ _, ?_⟩
      conv => whnf
      (refine ⟨by kernel_rfl, ?_⟩)
      conv => whnf
      with_reducible refine ⟨_, _, kb6 _ _, ?_⟩
      conv => whnf
      (refine ⟨by kernel_rfl, ?_⟩)
      conv => whnf
      with_reducible refine ⟨_, _, ke3 _ _, ?_⟩
      conv => whnf
      (refine ⟨by kernel_rfl, ?_⟩)
      conv => whnf
      with_reducible refine ⟨_, _, ke6 _ _, ?_⟩
      conv => whnf
      (refine ⟨by kernel_rfl, ?_⟩)
      conv => whnf
      (refine runK_ret (ev_indexRsl (sz := 25) rfl rfl rfl rfl hI0 h1) ?_)
      conv => whnf
      (refine runK_if ⟨hvv, rfl, hf1, .inl rfl⟩ (runK_ret rfl ?_))
      conv => whnf
      (refine listK_of (splice_nodes0 (k := 12) (x' := (⟨kd, ge, mo, us, ng, li, xrs, xrn, xws, xwn, ts, tn, .sl0, [], vf, ta, .sl0, [], pa, nx⟩ : NodeS)) hxl (Nat.le_of_ble_eq_true rfl) rfl) ?_)
      conv => whnf
      (refine runK_ret (ev_indexRsl (sz := 25) rfl rfl rfl rfl hI0 h1) ?_)
      conv => whnf
      (refine runK_if ⟨hvv2 (⟨kd, ge, mo, us, ng, li, xrs, xrn, xws, xwn, ts, tn, .sl0, [], vf, ta, .sl0, [], pa, nx⟩ : NodeS), rfl, hf2 (⟨kd, ge, mo, us, ng, li, xrs, xrn, xws, xwn, ts, tn, .sl0, [], vf, ta, .sl0, [], pa, nx⟩ : NodeS), .inl rfl⟩ (runK_ret rfl ?_))
      conv => whnf
      (refine listK_of (splice_nodes0 (k := 22) (x' := (⟨kd, ge, mo, us, ng, li, xrs, xrn, xws, xwn, ts, tn, .sl0, [], vf, ta, .sl0, [], pa, nx⟩ : NodeS)) (hget _) (Nat.le_of_ble_eq_true rfl) rfl) ?_)
      conv => whnf
      (refine ⟨by kernel_rfl, ?_⟩)
      conv => whnf
      (exact ih (IntKind.wrap .i64 (i + 1), _) _ (hst2 (⟨kd, ge, mo, us, ng, li, xrs, xrn, xws, xwn, ts, tn, .sl0, [], vf, ta, .sl0, [], pa, nx⟩ : NodeS)) hmu (by kernel_rfl))
    · conv => whnf
      (refine runK_ret (ev_indexRsl (sz := 25) rfl rfl rfl rfl hI0 h1) ?_)
      conv => whnf
      (refine runK_if hvv (runK_cells rfl hc1 hd1 (runK_ret rfl ?_)))
      conv => whnf
      with_reducible refine ⟨_, _, kb3 _ _, ?_⟩
      conv => whnf
      (refine ⟨by kernel_rfl, ?_⟩)
      conv => whnf
      with_reducible refine ⟨_, _, kb6 _ _, ?_⟩
      conv => whnf
      (refine ⟨by kernel_rfl, ?_⟩)
      conv => whnf
      with_reducible refine ⟨_, _, ke2 _ _ _, ?_⟩
      conv => whnf
      (refine ⟨by kernel_rfl, ?_⟩)
      conv => whnf
      with_reducible refine ⟨_, _, ke5 _ _ _, ?_⟩
      conv => whnf
      (refine ⟨by kernel_rfl, ?_⟩)
      conv => whnf
      (refine runK_ret (ev_indexRsl (sz := 25) rfl rfl rfl rfl hI0 h1) ?_)
      conv => whnf
      (refine runK_if ⟨hvv, rfl, hf1, .inl rfl⟩ (runK_ret rfl ?_))
      conv => whnf
      (refine listK_of (splice_nodes0 (k := 12) (x' := (⟨kd, ge, mo, us, ng, li, xrs, xrn, xws, xwn, ts, tn, .sl0, [], vf, ta, .sl [] 0 lt, [], pa, nx⟩ : NodeS)) hxl (Nat.le_of_ble_eq_true rfl) rfl) ?_)
      conv => whnf
      (refine runK_ret (ev_indexRsl (sz := 25) rfl rfl rfl rfl hI0 h1) ?_)
      conv => whnf
      (refine runK_if ⟨hvv2 (⟨kd, ge, mo, us, ng, li, xrs, xrn, xws, xwn, ts, tn, .sl0, [], vf, ta, .sl [] 0 lt, [], pa, nx⟩ : NodeS), rfl, hf2 (⟨kd, ge, mo, us, ng, li, xrs, xrn, xws, xwn, ts, tn, .sl0, [], vf, ta, .sl [] 0 lt, [], pa, nx⟩ : NodeS), .inl rfl⟩ (runK_ret rfl ?_))
      conv => whnf
      (refine listK_of (splice_nodes0 (k := 22) (x' := (⟨kd, ge, mo, us, ng, li, xrs, xrn, xws, xwn, ts, tn, .sl0, [], vf, ta, .sl [] 0 true, [], pa, nx⟩ : NodeS)) (hget _) (Nat.le_of_ble_eq_true rfl) rfl) ?_)
      conv => whnf
      (refine ⟨by kernel_rfl, ?_⟩)
      conv => whnf
      (exact ih (IntKind.wrap .i64 (i + 1), _) _ (hst2 (⟨kd, ge, mo, us, ng, li, xrs, xrn, xws, xwn, ts, tn, .sl0, [], vf, ta, .sl [] 0 lt, [], pa, nx⟩ : NodeS)) hmu (by kernel_rfl))
    · conv => whnf
      (refine runK_ret (ev_indexRsl (sz := 25) rfl rfl rfl rfl hI0 h1) ?_)
      conv => whnf
      (refine runK_if hvv (runK_cells rfl hc1 hd1 (runK_ret rfl ?_)))
      conv => whnf
      with_reducible refine ⟨_, _, kb3 _ _, ?_⟩
      conv => whnf
      (refine ⟨by kernel_rfl, ?_⟩)
      conv => whnf
      with_reducible refine ⟨_, _, kb6 _ _, ?_⟩
      conv => whnf
      (refine ⟨by kernel_rfl, ?_⟩)
      conv => whnf
      with_reducible refine ⟨_, _, ke1 _ _ _ _ _ hb2, ?_⟩
      conv => whnf
      (refine ⟨by kernel_rfl, ?_⟩)
      conv => whnf
      with_reducible refine ⟨_, _, ke4 _ _ _ _, ?_⟩
      conv => whnf
      (refine ⟨by kernel_rfl, ?_⟩)
      conv => whnf
      (refine runK_ret (ev_indexRsl (sz := 25) rfl rfl rfl rfl hI0 h1) ?_)
      conv => whnf
      (refine runK_if ⟨hvv, rfl, hf1, .inl rfl⟩ (runK_ret rfl ?_))
      conv => whnf
      (refine listK_of (splice_nodes0 (k := 12) (x' := (⟨kd, ge, mo, us, ng, li, xrs, xrn, xws, xwn, ts, tn, .sl0, [], vf, ta, .sl (entriesA (la :: lr)) (la :: lr).length lt, la :: lr, pa, nx⟩ : NodeS)) hxl (Nat.le_of_ble_eq_true rfl) rfl) ?_)
      conv => whnf
      (refine runK_ret (ev_indexRsl (sz := 25) rfl rfl rfl rfl hI0 h1) ?_)
      conv => whnf
      (refine runK_if ⟨hvv2 (⟨kd, ge, mo, us, ng, li, xrs, xrn, xws, xwn, ts, tn, .sl0, [], vf, ta, .sl (entriesA (la :: lr)) (la :: lr).length lt, la :: lr, pa, nx⟩ : NodeS), rfl, hf2 (⟨kd, ge, mo, us, ng, li, xrs, xrn, xws, xwn, ts, tn, .sl0, [], vf, ta, .sl (entriesA (la :: lr)) (la :: lr).length lt, la :: lr, pa, nx⟩ : NodeS), .inl rfl⟩ (runK_ret rfl ?_))
      conv => whnf
      (refine listK_of (splice_nodes0 (k := 22) (x' := (⟨kd, ge, mo, us, ng, li, xrs, xrn, xws, xwn, ts, tn, .sl0, [], vf, ta, .sl (entriesA (la :: lr)) (la :: lr).length true, la :: lr, pa, nx⟩ : NodeS)) (hget _) (Nat.le_of_ble_eq_true rfl) rfl) ?_)
      conv => whnf
      (refine ⟨by kernel_rfl, ?_⟩)
      conv => whnf
      (exact ih (IntKind.wrap .i64 (i + 1), _) _ (hst2 (⟨kd, ge, mo, us, ng, li, xrs, xrn, xws, xwn, ts, tn, .sl0, [], vf, ta, .sl (entriesA (la :: lr)) (la :: lr).length lt, la :: lr, pa, nx⟩ : NodeS)) hmu (by kernel_rfl))
    · conv => whnf
      (refine runK_ret (ev_indexRsl (sz := 25) rfl rfl rfl rfl hI0 h1) ?_)
      conv => whnf
      (refine runK_if hvv (runK_cells rfl hc1 hd1 (runK_ret rfl ?_)))
      conv => whnf
      with_reducible refine ⟨_, _, kb2 _ _ _, ?_⟩
      conv => whnf
      (refine ⟨by kernel_rfl, ?_⟩)
      conv => whnf
      with_reducible refine ⟨_, _, kb5 _ _ _, ?_⟩
      conv => whnf
      (refine ⟨by kernel_rfl, ?_⟩)
      conv => whnf
      with_reducible refine ⟨_, _, ke3 _ _, ?_⟩
      conv => whnf
      (refine ⟨by kernel_rfl, ?_⟩)
      conv => whnf
      with_reducible refine ⟨_, _, ke6 _ _, ?_⟩
      conv => whnf
      (refine ⟨by kernel_rfl, ?_⟩)
      conv => whnf
      (refine runK_ret (ev_indexRsl (sz := 25) rfl rfl rfl rfl hI0 h1) ?_)
      conv => whnf
      (refine runK_if ⟨hvv, rfl, hf1, .inl rfl⟩ (runK_ret rfl ?_))
      conv => whnf
      (refine listK_of (splice_nodes0 (k := 12) (x' := (⟨kd, ge, mo, us, ng, li, xrs, xrn, xws, xwn, ts, tn, .sl [] 0 true, [], vf, ta, .sl0, [], pa, nx⟩ : NodeS)) hxl (Nat.le_of_ble_eq_true rfl) rfl) ?_)
      conv => whnf
      (refine runK_ret (ev_indexRsl (sz := 25) rfl rfl rfl rfl hI0 h1) ?_)
      conv => whnf
      (refine runK_if ⟨hvv2 (⟨kd, ge, mo, us, ng, li, xrs, xrn, xws, xwn, ts, tn, .sl [] 0 true, [], vf, ta, .sl0, [], pa, nx⟩ : NodeS), rfl, hf2 (⟨kd, ge, mo, us, ng, li, xrs, xrn, xws, xwn, ts, tn, .sl [] 0 true, [], vf, ta, .sl0, [], pa, nx⟩ : NodeS), .inl rfl⟩ (runK_ret rfl ?_))
      conv => whnf
      (refine listK_of (splice_nodes0 (k := 22) (x' := (⟨kd, ge, mo, us, ng, li, xrs, xrn, xws, xwn, ts, tn, .sl [] 0 true, [], vf, ta, .sl0, [], pa, nx⟩ : NodeS)) (hget _) (Nat.le_of_ble_eq_true rfl) rfl) ?_)
      conv => whnf
      (refine ⟨by kernel_rfl, ?_⟩)
      conv => whnf
      (exact ih (IntKind.wrap .i64 (i + 1), _) _ (hst2 (⟨kd, ge, mo, us, ng, li, xrs, xrn, xws, xwn, ts, tn, .sl [] 0 true, [], vf, ta, .sl0, [], pa, nx⟩ : NodeS)) hmu (by kernel_rfl))
    · conv => whnf
      (refine runK_ret (ev_indexRsl (sz := 25) rfl rfl rfl rfl hI0 h1) ?_)
      conv => whnf
      (refine runK_if hvv (runK_cells rfl hc1 hd1 (runK_ret rfl ?_)))
      conv => whnf
      with_reducible refine ⟨_, _, kb2 _ _ _, ?_⟩
      conv => whnf
      (refine ⟨by kernel_rfl, ?_⟩)
      conv => whnf
      with_reducible refine ⟨_, _, kb5 _ _ _, ?_⟩
      conv => whnf
      (refine ⟨by kernel_rfl, ?_⟩)
      conv => whnf
      with_reducible refine ⟨_, _, ke2 _ _ _, ?_⟩
      conv => whnf
      (refine ⟨by kernel_rfl, ?_⟩)
      conv => whnf
      with_reducible refine ⟨_, _, ke5 _ _ _, ?_⟩
      conv => whnf
      (refine ⟨by kernel_rfl, ?_⟩)
      conv => whnf
      (refine runK_ret (ev_indexRsl (sz := 25) rfl rfl rfl rfl hI0 h1) ?_)
      conv => whnf
      (refine runK_if ⟨hvv, rfl, hf1, .inl rfl⟩ (runK_ret rfl ?_))
      conv => whnf
      (refine listK_of (splice_nodes0 (k := 12) (x' := (⟨kd, ge, mo, us, ng, li, xrs, xrn, xws, xwn, ts, tn, .sl [] 0 true, [], vf, ta, .sl [] 0 lt, [], pa, nx⟩ : NodeS)) hxl (Nat.le_of_ble_eq_true rfl) rfl) ?_)
      conv => whnf
      (refine runK_ret (ev_indexRsl (sz := 25) rfl rfl rfl rfl hI0 h1) ?_)
      conv => whnf
      (refine runK_if ⟨hvv2 (⟨kd, ge, mo, us, ng, li, xrs, xrn, xws, xwn, ts, tn, .sl [] 0 true, [], vf, ta, .sl [] 0 lt, [], pa, nx⟩ : NodeS), rfl, hf2 (⟨kd, ge, mo, us, ng, li, xrs, xrn, xws, xwn, ts, tn, .sl [] 0 true, [], vf, ta, .sl [] 0 lt, [], pa, nx⟩ : NodeS), .inl rfl⟩ (runK_ret rfl ?_))
      conv => whnf
      (refine listK_of (splice_nodes0 (k := 22) (x' := (⟨kd, ge, mo, us, ng, li, xrs, xrn, xws, xwn, ts, tn, .sl [] 0 true, [], vf, ta, .sl [] 0 true, [], pa, nx⟩ : NodeS)) (hget _) (Nat.le_of_ble_eq_true rfl) rfl) ?_)
      conv => whnf
      (refine ⟨by kernel_rfl, ?_⟩)
      conv => whnf
      (exact ih (IntKind.wrap .i64 (i + 1), _) _ (hst2 (⟨kd, ge, mo, us, ng, li, xrs, xrn, xws, xwn, ts, tn, .sl [] 0 true, [], vf, ta, .sl [] 0 lt, [], pa, nx⟩ : NodeS)) hmu (by kernel_rfl))
    · conv => whnf
      (refine runK_ret (ev_indexRsl (sz := 25) rfl rfl rfl rfl hI0 h1) ?_)
      conv => whnf
      (refine runK_if hvv (runK_cells rfl hc1 hd1 (runK_ret rfl ?_)))
      conv => whnf
      with_reducible refine ⟨_, _, kb2 _ _ _, ?_⟩
      conv => whnf
      (refine ⟨by kernel_rfl, ?_⟩)
      conv => whnf
      with_reducible refine ⟨_, _, kb5 _ _ _, ?_⟩
      conv => whnf
      (refine ⟨by kernel_rfl, ?_⟩)
      conv => whnf
      with_reducible refine ⟨_, _, ke1 _ _ _ _ _ hb2, ?_⟩
      conv => whnf
      (refine ⟨by kernel_rfl, ?_⟩)
      conv => whnf
      with_reducible refine ⟨_, _, ke4 _ _ _ _, ?_⟩
      conv => whnf
      (refine ⟨by kernel_rfl, ?_⟩)
      conv => whnf
      (refine runK_ret (ev_indexRsl (sz := 25) rfl rfl rfl rfl hI0 h1) ?_)
      conv => whnf
      (refine runK_if ⟨hvv, rfl, hf1, .inl rfl⟩ (runK_ret rfl ?_))
      conv => whnf
      (refine listK_of (splice_nodes0 (k := 12) (x' := (⟨kd, ge, mo, us, ng, li, xrs, xrn, xws, xwn, ts, tn, .sl [] 0 true, [], vf, ta, .sl (entriesA (la :: lr)) (la :: lr).length lt, la :: lr, pa, nx⟩ : NodeS)) hxl (Nat.le_of_ble_eq_true rfl) rfl) ?_)
      conv => whnf
      (refine runK_ret (ev_indexRsl (sz := 25) rfl rfl rfl rfl hI0 h1) ?_)
      conv => whnf
      (refine runK_if ⟨hvv2 (⟨kd, ge, mo, us, ng, li, xrs, xrn, xws, xwn, ts, tn, .sl [] 0 true, [], vf, ta, .sl (entriesA (la :: lr)) (la :: lr).length lt, la :: lr, pa, nx⟩ : NodeS), rfl, hf2 (⟨kd, ge, mo, us, ng, li, xrs, xrn, xws, xwn, ts, tn, .sl [] 0 true, [], vf, ta, .sl (entriesA (la :: lr)) (la :: lr).length lt, la :: lr, pa, nx⟩ : NodeS), .inl rfl⟩ (runK_ret rfl ?_))
      conv => whnf
      (refine listK_of (splice_nodes0 (k := 22) (x' := (⟨kd, ge, mo, us, ng, li, xrs, xrn, xws, xwn, ts, tn, .sl [] 0 true, [], vf, ta, .sl (entriesA (la :: lr)) (la :: lr).length true, la :: lr, pa, nx⟩ : NodeS)) (hget _) (Nat.le_of_ble_eq_true rfl) rfl) ?_)
      conv => whnf
      (refine ⟨by kernel_rfl, ?_⟩)
      conv => whnf
      (exact ih (IntKind.wrap .i64 (i + 1), _) _ (hst2 (⟨kd, ge, mo, us, ng, li, xrs, xrn, xws, xwn, ts, tn, .sl [] 0 true, [], vf, ta, .sl (entriesA (la :: lr)) (la :: lr).length lt, la :: lr, pa, nx⟩ : NodeS)) hmu (by kernel_rfl))
    · conv => whnf
      (refine runK_ret (ev_indexRsl (sz := 25) rfl rfl rfl rfl hI0 h1) ?_)
      conv => whnf
      (refine runK_if hvv (runK_cells rfl hc1 hd1 (runK_ret rfl ?_)))
      conv => whnf
      with_reducible refine ⟨_, _, kb1 _ _ _ _ _ hb1, ?_⟩
      conv => whnf
      (refine ⟨by kernel_rfl, ?_⟩)
      conv => whnf
      with_reducible refine ⟨_, _, kb4 _ _ _ _, ?_⟩
      conv => whnf
      (refine ⟨by kernel_rfl, ?_⟩)
      conv => whnf
      with_reducible refine ⟨_, _, ke3 _ _, ?_⟩
      conv => whnf
      (refine ⟨by kernel_rfl, ?_⟩)
      conv => whnf
      with_reducible refine ⟨_, _, ke6 _ _, ?_⟩
      conv => whnf
      (refine ⟨by kernel_rfl, ?_⟩)
      conv => whnf
      (refine runK_ret (ev_indexRsl (sz := 25) rfl rfl rfl rfl hI0 h1) ?_)
      conv => whnf
      (refine runK_if ⟨hvv, rfl, hf1, .inl rfl⟩ (runK_ret rfl ?_))
      conv => whnf
      (refine listK_of (splice_nodes0 (k := 12) (x' := (⟨kd, ge, mo, us, ng, li, xrs, xrn, xws, xwn, ts, tn, .sl (numsA .u8 (da :: dr)) (da :: dr).length true, da :: dr, vf, ta, .sl0, [], pa, nx⟩ : NodeS)) hxl (Nat.le_of_ble_eq_true rfl) rfl) ?_)
      conv => whnf
      (refine runK_ret (ev_indexRsl (sz := 25) rfl rfl rfl rfl hI0 h1) ?_)
      conv => whnf
      (refine runK_if ⟨hvv2 (⟨kd, ge, mo, us, ng, li, xrs, xrn, xws, xwn, ts, tn, .sl (numsA .u8 (da :: dr)) (da :: dr).length true, da :: dr, vf, ta, .sl0, [], pa, nx⟩ : NodeS), rfl, hf2 (⟨kd, ge, mo, us, ng, li, xrs, xrn, xws, xwn, ts, tn, .sl (numsA .u8 (da :: dr)) (da :: dr).length true, da :: dr, vf, ta, .sl0, [], pa, nx⟩ : NodeS), .inl rfl⟩ (runK_ret rfl ?_))
      conv => whnf
      (refine listK_of (splice_nodes0 (k := 22) (x' := (⟨kd, ge, mo, us, ng, li, xrs, xrn, xws, xwn, ts, tn, .sl (numsA .u8 (da :: dr)) (da :: dr).length true, da :: dr, vf, ta, .sl0, [], pa, nx⟩ : NodeS)) (hget _) (Nat.le_of_ble_eq_true rfl) rfl) ?_)
      conv => whnf
      (refine ⟨by kernel_rfl, ?_⟩)
      conv => whnf
      (exact ih (IntKind.wrap .i64 (i + 1), _) _ (hst2 (⟨kd, ge, mo, us, ng, li, xrs, xrn, xws, xwn, ts, tn, .sl (numsA .u8 (da :: dr)) (da :: dr).length true, da :: dr, vf, ta, .sl0, [], pa, nx⟩ : NodeS)) hmu (by kernel_rfl))
    · conv => whnf
      (refine runK_ret (ev_indexRsl (sz := 25) rfl rfl rfl rfl hI0 h1) ?_)
      conv => whnf
      (refine runK_if hvv (runK_cells rfl hc1 hd1 (runK_ret rfl ?_)))
      conv => whnf
      with_reducible refine ⟨_, _, kb1 _ _ _ _ _ hb1, ?_⟩
      conv => whnf
      (refine ⟨by kernel_rfl, ?_⟩)
      conv => whnf
      with_reducible refine ⟨_, _, kb4 _ _ _ _, ?_⟩
      conv => whnf
      (refine ⟨by kernel_rfl, ?_⟩)
      conv => whnf
      with_reducible refine ⟨_, _, ke2 _ _ _, ?_⟩
      conv => whnf
      (refine ⟨by kernel_rfl, ?_⟩)
      conv => whnf
      with_reducible refine ⟨_, _, ke5 _ _ _, ?_⟩
      conv => whnf
      (refine ⟨by kernel_rfl, ?_⟩)
      conv => whnf
      (refine runK_ret (ev_indexRsl (sz := 25) rfl rfl rfl rfl hI0 h1) ?_)
      conv => whnf
      (refine runK_if ⟨hvv, rfl, hf1, .inl rfl⟩ (runK_ret rfl ?_))
      conv => whnf
      (refine listK_of (splice_nodes0 (k := 12) (x' := (⟨kd, ge, mo, us, ng, li, xrs, xrn, xws, xwn, ts, tn, .sl (numsA .u8 (da :: dr)) (da :: dr).length true, da :: dr, vf, ta, .sl [] 0 lt, [], pa, nx⟩ : NodeS)) hxl (Nat.le_of_ble_eq_true rfl) rfl) ?_)
      conv => whnf
      (refine runK_ret (ev_indexRsl (sz := 25) rfl rfl rfl rfl hI0 h1) ?_)
      conv => whnf
      (refine runK_if ⟨hvv2 (⟨kd, ge, mo, us, ng, li, xrs, xrn, xws, xwn, ts, tn, .sl (numsA .u8 (da :: dr)) (da :: dr).length true, da :: dr, vf, ta, .sl [] 0 lt, [], pa, nx⟩ : NodeS), rfl, hf2 (⟨kd, ge, mo, us, ng, li, xrs, xrn, xws, xwn, ts, tn, .sl (numsA .u8 (da :: dr)) (da :: dr).length true, da :: dr, vf, ta, .sl [] 0 lt, [], pa, nx⟩ : NodeS), .inl rfl⟩ (runK_ret rfl ?_))
      conv => whnf
      (refine listK_of (splice_nodes0 (k := 22) (x' := (⟨kd, ge, mo, us, ng, li, xrs, xrn, xws, xwn, ts, tn, .sl (numsA .u8 (da :: dr)) (da :: dr).length true, da :: dr, vf, ta, .sl [] 0 true, [], pa, nx⟩ : NodeS)) (hget _) (Nat.le_of_ble_eq_true rfl) rfl) ?_)
      conv => whnf
      (refine ⟨by kernel_rfl, ?_⟩)
      conv => whnf
      (exact ih (IntKind.wrap .i64 (i + 1), _) _ (hst2 (⟨kd, ge, mo, us, ng, li, xrs, xrn, xws, xwn, ts, tn, .sl (numsA .u8 (da :: dr)) (da :: dr).length true, da :: dr, vf, ta, .sl [] 0 lt, [], pa, nx⟩ : NodeS)) hmu (by kernel_rfl))
    · conv => whnf
      (refine runK_ret (ev_indexRsl (sz := 25) rfl rfl rfl rfl hI0 h1) ?_)
      conv => whnf
      (refine runK_if hvv (runK_cells rfl hc1 hd1 (runK_ret rfl ?_)))
      conv => whnf
      with_reducible refine ⟨_, _, kb1 _ _ _ _ _ hb1, ?_⟩
      conv => whnf
      (refine ⟨by kernel_rfl, ?_⟩)
      conv => whnf
      with_reducible refine ⟨_, _, kb4 _ _ _ _, ?_⟩
      conv => whnf
      (refine ⟨by kernel_rfl, ?_⟩)
      conv => whnf
      with_reducible refine ⟨_, _, ke1 _ _ _ _ _ hb2, ?_⟩
      conv => whnf
      (refine ⟨by kernel_rfl, ?_⟩)
      conv => whnf
      with_reducible refine ⟨_, _, ke4 _ _ _ _, ?_⟩
      conv => whnf
      (refine ⟨by kernel_rfl, ?_⟩)
      conv => whnf
      (refine runK_ret (ev_indexRsl (sz := 25) rfl rfl rfl rfl hI0 h1) ?_)
      conv => whnf
      (refine runK_if ⟨hvv, rfl, hf1, .inl rfl⟩ (runK_ret rfl ?_))
      conv => whnf
      (refine listK_of (splice_nodes0 (k := 12) (x' := (⟨kd, ge, mo, us, ng, li, xrs, xrn, xws, xwn, ts, tn, .sl (numsA .u8 (da :: dr)) (da :: dr).length true, da :: dr, vf, ta, .sl (entriesA (la :: lr)) (la :: lr).length lt, la :: lr, pa, nx⟩ : NodeS)) hxl (Nat.le_of_ble_eq_true rfl) rfl) ?_)
      conv => whnf
      (refine runK_ret (ev_indexRsl (sz := 25) rfl rfl rfl rfl hI0 h1) ?_)
      conv => whnf
      (refine runK_if ⟨hvv2 (⟨kd, ge, mo, us, ng, li, xrs, xrn, xws, xwn, ts, tn, .sl (numsA .u8 (da :: dr)) (da :: dr).length true, da :: dr, vf, ta, .sl (entriesA (la :: lr)) (la :: lr).length lt, la :: lr, pa, nx⟩ : NodeS), rfl, hf2 (⟨kd, ge, mo, us, ng, li, xrs, xrn, xws, xwn, ts, tn, .sl (numsA .u8 (da :: dr)) (da :: dr).length true, da :: dr, vf, ta, .sl (entriesA (la :: lr)) (la :: lr).length lt, la :: lr, pa, nx⟩ : NodeS), .inl rfl⟩ (runK_ret rfl ?_))
      conv => whnf
      (refine listK_of (splice_nodes0 (k := 22) (x' := (⟨kd, ge, mo, us, ng, li, xrs, xrn, xws, xwn, ts, tn, .sl (numsA .u8 (da :: dr)) (da :: dr).length true, da :: dr, vf, ta, .sl (entriesA (la :: lr)) (la :: lr).length true, la :: lr, pa, nx⟩ : NodeS)) (hget _) (Nat.le_of_ble_eq_true rfl) rfl) ?_)
      conv => whnf
      (refine ⟨by kernel_rfl, ?_⟩)
      conv => whnf
      (exact ih (IntKind.wrap .i64 (i + 1), _) _ (hst2 (⟨kd, ge, mo, us, ng, li, xrs, xrn, xws, xwn, ts, tn, .sl (numsA .u8 (da :: dr)) (da :: dr).length true, da :: dr, vf, ta, .sl (entriesA (la :: lr)) (la :: lr).length lt, la :: lr, pa, nx⟩ : NodeS)) hmu (by kernel_rfl))
end Go.Proofs.Ytnkeijebkpjdgaa.Ab
/- Over the engine: numbers of four and eight bytes. -/
namespace Go.Proofs.Ytnkeijebkpjdgaa.Ab
open Go Go.RowKit

set_option maxRecDepth 100000
section
variable {P : Program} {flat : TypeId → Option (List Nat)} {nid : Nat} {ρ : Operand → AV}
/-- A part of a row that nobody writes: its beginning. -/
theorem ev_sliceTo {t e : TypeId} {sz : Nat} {a hi : Operand} {cells : List AV} {n : Nat} {tight : Bool} {k : IntKind} {j : Int} (ht : P.underlying t = some (.slice e)) (hs : szOf P e = some sz) (ha : ρ a = .sl cells n tight) (hh : ρ hi = .int k j) (h0 : 0 ≤ j) (h1 : j ≤ n) (hl : j.toNat * sz ≤ cells.length) :
    evOp P flat nid (.slice t a none (some hi) none) ρ = .ret (.sl (cells.take (j.toNat * sz)) j.toNat (tight && decide (j.toNat = n)), .none) := by
  simp only [evOp, sliceA, ht, ha, hs, Option.map_some, Option.map_none, boundsA, boundA, hh]
  rw [if_pos ⟨h0, h1⟩]
  simp only
  rw [if_pos hl]
  have e : (if True ∧ j.toNat = n ∧ cells.length = j.toNat * sz then cells else (cells.take (j.toNat * sz)).drop (0 * sz)) = cells.take (j.toNat * sz) := by
    split
    · rename_i h
      rw [← h.2.2, List.take_length]
    · simp
  rw [e]
  rfl
/-- Its end. -/
theorem ev_sliceFrom {t e : TypeId} {sz : Nat} {a lo : Operand} {cells : List AV} {n : Nat} {tight : Bool} {k : IntKind} {j : Int} (ht : P.underlying t = some (.slice e)) (hs : szOf P e = some sz) (ha : ρ a = .sl cells n tight) (hh : ρ lo = .int k j) (h0 : 0 ≤ j) (h1 : j ≤ n) (hl : cells.length = n * sz) :
    evOp P flat nid (.slice t a (some lo) none none) ρ = .ret (.sl (cells.drop (j.toNat * sz)) (n - j.toNat) tight, .none) := by
  simp only [evOp, sliceA, ht, ha, hs, Option.map_some, Option.map_none, boundsA, boundA, hh, Option.isNone_none, if_true]
  rw [if_pos ⟨h0, h1⟩]
  simp only
  rw [if_pos (by omega)]
  have e : (if j.toNat = 0 ∧ True ∧ cells.length = n * sz then cells else (cells.take (n * sz)).drop (j.toNat * sz)) = cells.drop (j.toNat * sz) := by
    have ht : cells.take (n * sz) = cells := by rw [← hl, List.take_length]
    split
    · rename_i h
      rw [h.1]
      simp
    · rw [ht]
  rw [e]
  simp [tightS]
end
def forceL : List AV → (List AV → Prop) → Prop
  | [], K => K []
  | v :: r, K => v.force fun v' => forceL r fun r' => K (v' :: r')
theorem forceL_eq : ∀ (l : List AV) (K : List AV → Prop), forceL l K = K l
  | [], _ => rfl
  | v :: r, K => by
    rw [forceL, AV.force_eq, forceL_eq r]
/-- Rows of few cells, and rows of these, laid open. -/
def openW (f : List AV → (List AV → Prop) → Prop) : List AV → (List AV → Prop) → Prop
  | [], K => K []
  | v :: r, K => v.force fun v' => match v' with
    | .sl c n t => listK c fun c => f c fun c => openW f r fun r' => K (.sl c n t :: r')
    | v' => openW f r fun r' => K (v' :: r')
def openL : Nat → List AV → (List AV → Prop) → Prop
  | 0, l, K => forceL l K
  | d + 1, l, K => openW (openL d) l K
theorem openW_eq {f : List AV → (List AV → Prop) → Prop} (hf : ∀ l K, f l K = K l) : ∀ (l : List AV) (K : List AV → Prop), openW f l K = K l
  | [], _ => rfl
  | v :: r, K => by
    rw [openW, AV.force_eq]
    cases v with
    | sl c n t =>
      show (listK c fun c => f c fun c => openW f r fun r' => K (.sl c n t :: r')) = _
      rw [listK_eq, hf, openW_eq hf r]
    | _ => exact openW_eq hf r _
theorem openL_eq : ∀ (d : Nat) (l : List AV) (K : List AV → Prop), openL d l K = K l
  | 0, l, K => forceL_eq l K
  | d + 1, l, K => openW_eq (openL_eq d) l K
/-- A call whose rows, of few cells, are handed over as values. -/
theorem call_open {E : Env} {n : Nat} {from_ f : FuncId} {x y as_ : List AV} {h : H} {K : AV → H → Prop} (hraw : E.raw from_ f = false) (hcl : cleanL (argsA h.bs as_).1 = true)
    (hwp : openL 2 (argsA h.bs as_).1 fun as1 => listK (argsA h.bs as_).2 fun bs1 => listK h.esc fun esc => ∃ v h', (evAll E (n + 1)).1 from_ (.fn f x y) as1 ⟨bs1, esc⟩ = some (.ret v, h') ∧ K v h') (hlend : E.lend f = false := by rfl) : ∃ v h', (evAll E (n + 1)).1 from_ (.fn f x y) as_ h = some (.ret v, h') ∧ K v h' := by
  simp only [openL_eq, listK_eq] at hwp
  obtain ⟨v, h', h1, h2⟩ := hwp
  refine ⟨v, h', ?_, h2⟩
  exact (call_args (E := E) (n := n) (from_ := from_) (f := f) (x := x) (y := y) hraw hcl hlend).trans h1
/-- A call whose rows, of few cells, are laid open. -/
theorem call_lay {call : CallF} {from_ : FuncId} {fv : AV} {as_ : List AV} {h : H} {K : AV → H → Prop} (hwp : openL 2 as_ fun as1 => ∃ v h', call from_ fv as1 h = some (.ret v, h') ∧ K v h') : ∃ v h', call from_ fv as_ h = some (.ret v, h') ∧ K v h' := by
  rw [openL_eq] at hwp
  exact hwp
/-- A byte of a number. -/
def byteS (n : Int) (s : Nat) : Int := IntKind.wrap .u8 (n.fdiv (2 ^ s))
def be4 (n : Int) : List Int := [byteS n 24, byteS n 16, byteS n 8, byteS n 0]
def be8 (n : Int) : List Int := [byteS n 56, byteS n 48, byteS n 40, byteS n 32, byteS n 24, byteS n 16, byteS n 8, byteS n 0]
theorem put4_c (m : Nat) (from_ : FuncId) (h : H) (n : Int) : evCall TE (m + 10) from_ (.fn 75 [] []) [.int .u32 n] h = some (.ret (.sl (numsA .u8 (be4 (IntKind.wrap .u64 n))) 4 false), h) := by
  skip
  kernel_rfl
def or32 (x y : Int) : Int := IntKind.wrap .u32 ((BitVec.ofInt 32 x ||| BitVec.ofInt 32 y).toNat : Int)
def join32 (x c : Int) : Int := or32 (IntKind.wrap .u32 (x * 2 ^ 8)) (IntKind.wrap .u32 c)
def get4 (a b c d : Int) : Int := join32 (join32 (join32 (join32 0 a) b) c) d
theorem get4_c (m : Nat) (from_ : FuncId) (h : H) (a b c d : Int) (r : List AV) (k : Nat) (t : Bool) (hk : 4 ≤ k) : evCall TE (m + 10) from_ (.fn 60 [] []) [.sl (.int .u8 a :: .int .u8 b :: .int .u8 c :: .int .u8 d :: r) k t] h = some (.ret (.tup [.int .u32 (get4 a b c d), .int .i64 0]), h) := by
  have c1 : ∀ (f : FuncId) (h : H), (evAll TE (m + 9)).1 f (.fn 73 [] []) [.sl (.int .u8 a :: .int .u8 b :: .int .u8 c :: .int .u8 d :: r) k t, .int .i64 4] h = some (.ret (.tup [.int .u32 (get4 a b c d), .int .i64 0]), h) := by
    intro f h
    have hlt : decide ((k : Int) < 4) = false := decide_eq_false (by omega)
    refine call_clean (fn := Try.f73) rfl Try.func73 rfl rfl rfl rfl rfl (Nat.le_of_ble_eq_true rfl) ?_
    conv => whnf
    ((with_reducible cases z0 : decide ((↑k : Int) < Int.ofNat 4)) <;> try exact Bool.noConfusion (Eq.trans (Eq.symm z0) hlt))
    conv => whnf
    (refine runK_ret (ev_sliceTo (sz := 1) rfl rfl rfl rfl (by decide) (show (4 : Int) ≤ k by omega) (by simp)) ?_)
    conv => whnf
    (refine ⟨(6 : Nat), Nat.le_of_ble_eq_true rfl, ?_⟩)
    conv => whnf
    rfl
  refine call_clean (fn := Try.f60) rfl Try.func60 rfl rfl rfl rfl rfl (Nat.le_of_ble_eq_true rfl) ?_
  conv => whnf
  with_reducible refine ⟨_, _, c1 _ _, ?_⟩
  conv => whnf
end Go.Proofs.Ytnkeijebkpjdgaa.Ab
/- Over the engine: handles. -/
namespace Go.Proofs.Ytnkeijebkpjdgaa.Ab
open Go Go.RowKit

set_option maxRecDepth 100000
def xor32 (x y : Int) : Int := IntKind.wrap .u32 ((BitVec.ofInt 32 x ^^^ BitVec.ofInt 32 y).toNat : Int)
def and32 (x y : Int) : Int := IntKind.wrap .u32 ((BitVec.ofInt 32 x &&& BitVec.ofInt 32 y).toNat : Int)
def furS (x : Int) : Int := xor32 (x.fdiv (2 ^ 1)) (and32 (IntKind.wrap .u32 (0 - and32 x 1)) 3988292384)
def furtherS (x : Int) : Int := furS (furS (furS (furS (furS (furS (furS (furS x)))))))
theorem further_c (m : Nat) (from_ : FuncId) (h : H) (x : Int) : evCall TE (m + 1) from_ (.fn 86 [] []) [.int .u32 x] h = some (.ret (.int .u32 (furtherS x)), h) := by
  skip
  kernel_rfl
def crcS (l : List Int) : Int := l.foldl (fun s c => furtherS (xor32 s (IntKind.wrap .u32 c))) 4294967295
def sumS (l : List Int) : Int := xor32 4294967295 (crcS l)
theorem sum_c (m : Nat) (from_ : FuncId) (h : H) (a0 a1 a2 a3 a4 a5 a6 a7 a8 a9 a10 a11 : Int) (t : Bool) : evCall TE (m + 2) from_ (.fn 76 [] []) [.sl [.int .u8 a0, .int .u8 a1, .int .u8 a2, .int .u8 a3, .int .u8 a4, .int .u8 a5, .int .u8 a6, .int .u8 a7, .int .u8 a8, .int .u8 a9, .int .u8 a10, .int .u8 a11] 12 t] h = some (.ret (.int .u32 (sumS [a0, a1, a2, a3, a4, a5, a6, a7, a8, a9, a10, a11])), h) := by
  have c1 : ∀ (f : FuncId) (h : H) (x : Int), (evAll TE (m + 1)).1 f (.fn 86 [] []) [.int .u32 x] h = some (.ret (.int .u32 (furtherS x)), h) := fun f h x => further_c m f h x
  refine call_clean (fn := Try.f76) rfl Try.func76 rfl rfl rfl rfl rfl (Nat.le_of_ble_eq_true rfl) ?_
  conv => whnf
  (refine ⟨(14 : Nat), Nat.le_of_ble_eq_true rfl, ?_⟩)
  conv => whnf
  with_reducible refine ⟨_, _, c1 _ _ _, ?_⟩
  conv => whnf
  with_reducible refine ⟨_, _, c1 _ _ _, ?_⟩
  conv => whnf
  with_reducible refine ⟨_, _, c1 _ _ _, ?_⟩
  conv => whnf
  with_reducible refine ⟨_, _, c1 _ _ _, ?_⟩
  conv => whnf
  with_reducible refine ⟨_, _, c1 _ _ _, ?_⟩
  conv => whnf
  with_reducible refine ⟨_, _, c1 _ _ _, ?_⟩
  conv => whnf
  with_reducible refine ⟨_, _, c1 _ _ _, ?_⟩
  conv => whnf
  with_reducible refine ⟨_, _, c1 _ _ _, ?_⟩
  conv => whnf
  with_reducible refine ⟨_, _, c1 _ _ _, ?_⟩
  conv => whnf
  with_reducible refine ⟨_, _, c1 _ _ _, ?_⟩
  conv => whnf
  with_reducible refine ⟨_, _, c1 _ _ _, ?_⟩
  conv => whnf
  with_reducible refine ⟨_, _, c1 _ _ _, ?_⟩
  conv => whnf
  rfl
theorem concat3_c (m : Nat) (from_ : FuncId) (h : H) (a0 a1 a2 a3 b0 b1 b2 b3 c0 c1 c2 c3 : Int) (t1 t2 t3 t : Bool) : evCall TE (m + 10) from_ (.fn 74 [] []) [.sl [.sl [.int .u8 a0, .int .u8 a1, .int .u8 a2, .int .u8 a3] 4 t1, .sl [.int .u8 b0, .int .u8 b1, .int .u8 b2, .int .u8 b3] 4 t2, .sl [.int .u8 c0, .int .u8 c1, .int .u8 c2, .int .u8 c3] 4 t3] 3 t] h = some (.ret (.sl [.int .u8 a0, .int .u8 a1, .int .u8 a2, .int .u8 a3, .int .u8 b0, .int .u8 b1, .int .u8 b2, .int .u8 b3, .int .u8 c0, .int .u8 c1, .int .u8 c2, .int .u8 c3] 12 false), h) := by
  skip
  kernel_rfl
theorem concat2_c (m : Nat) (from_ : FuncId) (h : H) (a0 a1 a2 a3 a4 a5 a6 a7 a8 a9 a10 a11 b0 b1 b2 b3 : Int) (t1 t2 t : Bool) : evCall TE (m + 10) from_ (.fn 74 [] []) [.sl [.sl [.int .u8 a0, .int .u8 a1, .int .u8 a2, .int .u8 a3, .int .u8 a4, .int .u8 a5, .int .u8 a6, .int .u8 a7, .int .u8 a8, .int .u8 a9, .int .u8 a10, .int .u8 a11] 12 t1, .sl [.int .u8 b0, .int .u8 b1, .int .u8 b2, .int .u8 b3] 4 t2] 2 t] h = some (.ret (.sl [.int .u8 a0, .int .u8 a1, .int .u8 a2, .int .u8 a3, .int .u8 a4, .int .u8 a5, .int .u8 a6, .int .u8 a7, .int .u8 a8, .int .u8 a9, .int .u8 a10, .int .u8 a11, .int .u8 b0, .int .u8 b1, .int .u8 b2, .int .u8 b3] 16 false), h) := by
  skip
  kernel_rfl
/-- What stands ahead of a handle's sum. -/
def headS (n g : Int) : List Int := [119, 104, 114, 102] ++ (be4 (IntKind.wrap .u64 n) ++ be4 (IntKind.wrap .u64 g))
def bytesS (n g : Int) : List Int := headS n g ++ be4 (IntKind.wrap .u64 (sumS (headS n g)))
set_option maxHeartbeats 8000000 in
theorem bytes_c (m : Nat) (from_ : FuncId) (h : H) (n g : Int) : evCall TE (m + 11) from_ (.fn 61 [] []) [.int .u32 n, .int .u32 g] h = some (.ret (.agg (numsA .u8 (bytesS n g))), h) := by
  have c1 : ∀ (f : FuncId) (h : H) (n : Int), (evAll TE (m + 10)).1 f (.fn 75 [] []) [.int .u32 n] h = some (.ret (.sl (numsA .u8 (be4 (IntKind.wrap .u64 n))) 4 false), h) := fun f h n => put4_c m f h n
  have c3 : ∀ (f : FuncId) (h : H) (a0 a1 a2 a3 b0 b1 b2 b3 c0 c1 c2 c3 : Int) (t1 t2 t3 t : Bool), (evAll TE (m + 10)).1 f (.fn 74 [] []) [.sl [.sl [.int .u8 a0, .int .u8 a1, .int .u8 a2, .int .u8 a3] 4 t1, .sl [.int .u8 b0, .int .u8 b1, .int .u8 b2, .int .u8 b3] 4 t2, .sl [.int .u8 c0, .int .u8 c1, .int .u8 c2, .int .u8 c3] 4 t3] 3 t] h = some (.ret (.sl [.int .u8 a0, .int .u8 a1, .int .u8 a2, .int .u8 a3, .int .u8 b0, .int .u8 b1, .int .u8 b2, .int .u8 b3, .int .u8 c0, .int .u8 c1, .int .u8 c2, .int .u8 c3] 12 false), h) := fun f h _ _ _ _ _ _ _ _ _ _ _ _ _ _ _ _ => concat3_c m f h ..
  have c4 : ∀ (f : FuncId) (h : H) (a0 a1 a2 a3 a4 a5 a6 a7 a8 a9 a10 a11 b0 b1 b2 b3 : Int) (t1 t2 t : Bool), (evAll TE (m + 10)).1 f (.fn 74 [] []) [.sl [.sl [.int .u8 a0, .int .u8 a1, .int .u8 a2, .int .u8 a3, .int .u8 a4, .int .u8 a5, .int .u8 a6, .int .u8 a7, .int .u8 a8, .int .u8 a9, .int .u8 a10, .int .u8 a11] 12 t1, .sl [.int .u8 b0, .int .u8 b1, .int .u8 b2, .int .u8 b3] 4 t2] 2 t] h = some (.ret (.sl [.int .u8 a0, .int .u8 a1, .int .u8 a2, .int .u8 a3, .int .u8 a4, .int .u8 a5, .int .u8 a6, .int .u8 a7, .int .u8 a8, .int .u8 a9, .int .u8 a10, .int .u8 a11, .int .u8 b0, .int .u8 b1, .int .u8 b2, .int .u8 b3] 16 false), h) := fun f h _ _ _ _ _ _ _ _ _ _ _ _ _ _ _ _ _ _ _ => concat2_c m f h ..
  have c1 : ∀ (f : FuncId) (h : H) (n : Int), (evAll TE (m + 10)).1 f (.fn 75 [] []) [.int .u32 n] h = some (.ret (.sl [.int .u8 (byteS (IntKind.wrap .u64 n) 24), .int .u8 (byteS (IntKind.wrap .u64 n) 16), .int .u8 (byteS (IntKind.wrap .u64 n) 8), .int .u8 (byteS (IntKind.wrap .u64 n) 0)] 4 false), h) := c1
  obtain ⟨s, hs⟩ : ∃ s, s = sumS (headS n g) := ⟨_, rfl⟩
  unfold bytesS
  rw [← hs]
  have c2 : ∀ (f : FuncId) (h : H) (t : Bool), (evAll TE (m + 10)).1 f (.fn 76 [] []) [.sl [.int .u8 119, .int .u8 104, .int .u8 114, .int .u8 102, .int .u8 (byteS (IntKind.wrap .u64 n) 24), .int .u8 (byteS (IntKind.wrap .u64 n) 16), .int .u8 (byteS (IntKind.wrap .u64 n) 8), .int .u8 (byteS (IntKind.wrap .u64 n) 0), .int .u8 (byteS (IntKind.wrap .u64 g) 24), .int .u8 (byteS (IntKind.wrap .u64 g) 16), .int .u8 (byteS (IntKind.wrap .u64 g) 8), .int .u8 (byteS (IntKind.wrap .u64 g) 0)] 12 t] h = some (.ret (.int .u32 s), h) := fun f h t => by
    rw [hs]
    exact sum_c (m + 8) f h 119 104 114 102 _ _ _ _ _ _ _ _ t
  unfold headS be4
  refine call_clean (fn := Try.f61) rfl Try.func61 rfl rfl rfl rfl rfl (Nat.le_of_ble_eq_true rfl) ?_
  conv => whnf
  with_reducible refine ⟨_, _, c1 _ _ _, ?_⟩
  conv => whnf
  with_reducible refine ⟨_, _, c1 _ _ _, ?_⟩
  conv => whnf
  (refine call_open rfl rfl ?_)
  conv => whnf
  with_reducible refine ⟨_, _, c3 _ _ _ _ _ _ _ _ _ _ _ _ _ _ _ _ _ _, ?_⟩
  conv => whnf
  with_reducible refine ⟨_, _, c2 _ _ _, ?_⟩
  conv => whnf
  with_reducible refine ⟨_, _, c1 _ _ _, ?_⟩
  conv => whnf
  (refine call_open rfl rfl ?_)
  conv => whnf
  with_reducible refine ⟨_, _, c4 _ _ _ _ _ _ _ _ _ _ _ _ _ _ _ _ _ _ _ _ _, ?_⟩
  conv => whnf
  rfl
end Go.Proofs.Ytnkeijebkpjdgaa.Ab
/- Over the engine: handles put and got; the handle of a node, the node of a handle. -/
namespace Go.Proofs.Ytnkeijebkpjdgaa.Ab
open Go Go.RowKit

set_option maxRecDepth 100000
theorem len_cons {α : Type} {l : List α} {n : Nat} (h : l.length = n + 1) : ∃ a r, l = a :: r ∧ r.length = n := by
  cases l with
  | nil => simp at h
  | cons a r => exact ⟨a, r, rfl, by simpa using h⟩
theorem len16 {l : List Int} (h : l.length = 16) : ∃ b0 b1 b2 b3 b4 b5 b6 b7 b8 b9 b10 b11 b12 b13 b14 b15, l = [b0, b1, b2, b3, b4, b5, b6, b7, b8, b9, b10, b11, b12, b13, b14, b15] := by
  obtain ⟨b0, r0, e0, h⟩ := len_cons h
  obtain ⟨b1, r1, e1, h⟩ := len_cons h
  obtain ⟨b2, r2, e2, h⟩ := len_cons h
  obtain ⟨b3, r3, e3, h⟩ := len_cons h
  obtain ⟨b4, r4, e4, h⟩ := len_cons h
  obtain ⟨b5, r5, e5, h⟩ := len_cons h
  obtain ⟨b6, r6, e6, h⟩ := len_cons h
  obtain ⟨b7, r7, e7, h⟩ := len_cons h
  obtain ⟨b8, r8, e8, h⟩ := len_cons h
  obtain ⟨b9, r9, e9, h⟩ := len_cons h
  obtain ⟨b10, r10, e10, h⟩ := len_cons h
  obtain ⟨b11, r11, e11, h⟩ := len_cons h
  obtain ⟨b12, r12, e12, h⟩ := len_cons h
  obtain ⟨b13, r13, e13, h⟩ := len_cons h
  obtain ⟨b14, r14, e14, h⟩ := len_cons h
  obtain ⟨b15, r15, e15, h⟩ := len_cons h
  have := List.eq_nil_of_length_eq_zero h
  exact ⟨_, _, _, _, _, _, _, _, _, _, _, _, _, _, _, _, by rw [e0, e1, e2, e3, e4, e5, e6, e7, e8, e9, e10, e11, e12, e13, e14, e15, this]⟩
def eqL : List Int → List Int → Bool
  | [], [] => true
  | a :: x, b :: y => a == b && eqL x y
  | _, _ => false
theorem putH_c (m : Nat) (from_ : FuncId) (h : H) (n g : Int) (h1 : 1 ≤ n) (h2 : n ≤ 1024) : evCall TE (m + 13) from_ (.fn 36 [] []) [.agg [.int .i64 n, .int .u32 g]] h = some (.ret (.tup [.sl (numsA .u8 (bytesS (IntKind.wrap .u32 n) g)) 16 false, .int .i64 0]), h) := by
  have c1 : ∀ (f : FuncId) (h : H), (evAll TE (m + 12)).1 f (.fn 61 [] []) [.int .u32 (IntKind.wrap .u32 n), .int .u32 g] h = some (.ret (.agg (numsA .u8 (bytesS (IntKind.wrap .u32 n) g))), h) := fun f h => bytes_c (m + 1) f h _ g
  have q1 : decide (n < 1) = false := decide_eq_false (by omega)
  have q2 : decide (n > 1024) = false := decide_eq_false (by omega)
  refine call_clean (fn := Try.f36) rfl Try.func36 rfl rfl rfl rfl rfl (Nat.le_of_ble_eq_true rfl) ?_
  conv => whnf
  ((with_reducible cases z0 : decide (n < Int.ofNat 1)) <;> try exact Bool.noConfusion (Eq.trans (Eq.symm z0) q1))
  conv => whnf
  ((with_reducible cases z1 : decide (n > Int.ofNat 1024)) <;> try exact Bool.noConfusion (Eq.trans (Eq.symm z1) q2))
  conv => whnf
  with_reducible refine ⟨_, _, c1 _ _, ?_⟩
  conv => whnf
  (refine call_inline (fn := Try.f50) rfl Try.func50 rfl rfl ?_)
  conv => whnf
  rfl
/-- The node and the number of a handle. -/
def getHS : List Int → Option (Int × Int)
  | [b0, b1, b2, b3, b4, b5, b6, b7, b8, b9, b10, b11, b12, b13, b14, b15] => if (get4 b4 b5 b6 b7 < 1 || (get4 b4 b5 b6 b7 > 1024 || !eqL (bytesS (get4 b4 b5 b6 b7) (get4 b8 b9 b10 b11)) [b0, b1, b2, b3, b4, b5, b6, b7, b8, b9, b10, b11, b12, b13, b14, b15])) = true then none else some (get4 b4 b5 b6 b7, get4 b8 b9 b10 b11)
  | _ => none
theorem getHS_len {l : List Int} (h : l.length ≠ 16) : getHS l = none := by
  unfold getHS
  split
  · simp at h
  · rfl
def getHA (o : Option (Int × Int)) : AV := match o with
  | some (n, g) => .tup [.agg [.int .i64 (IntKind.wrap .i64 n), .int .u32 g], .int .i64 0]
  | none => .tup [.agg [.int .i64 0, .int .u32 0], .int .i64 5]
set_option maxHeartbeats 8000000 in
theorem getH_c (m : Nat) (from_ : FuncId) (h : H) (v : AV) (l : List Int) (hv : rowOk .u8 v l) : evCall TE (m + 13) from_ (.fn 33 [] []) [v] h = some (.ret (getHA (getHS l)), h) := by
  cases hq : ((l.length : Int) != 16) with
  | true =>
    have hne : l.length ≠ 16 := by
      have : ¬ ((l.length : Int) = 16) := by simpa [bne] using hq
      omega
    rw [getHS_len hne]
    unfold getHA
    rcases hv with ⟨rfl, rfl⟩ | ⟨t, rfl⟩
    · refine call_clean (fn := Try.f33) rfl Try.func33 rfl rfl rfl rfl rfl (Nat.le_of_ble_eq_true rfl) ?_
      conv => whnf
      rfl
    · refine call_clean (fn := Try.f33) rfl Try.func33 rfl rfl rfl rfl rfl (Nat.le_of_ble_eq_true rfl) ?_
      conv => whnf
      ((with_reducible cases z0 : (↑l.length : Int) != Int.ofNat 16) <;> try exact Bool.noConfusion (Eq.trans (Eq.symm z0) hq))
      conv => whnf
      rfl
  | false =>
    have hl : l.length = 16 := by
      have : ((l.length : Int) = 16) := by simpa [bne] using hq
      omega
    clear hq
    rcases hv with ⟨rfl, rfl⟩ | ⟨t, rfl⟩
    · simp at hl
    obtain ⟨b0, b1, b2, b3, b4, b5, b6, b7, b8, b9, b10, b11, b12, b13, b14, b15, rfl⟩ := len16 hl
    clear hl
    unfold getHS
    dsimp only
    have g1 : ∀ (f : FuncId) (h : H) (k : Nat) (t : Bool), 4 ≤ k → (evAll TE (m + 12)).1 f (.fn 60 [] []) [.sl [.int .u8 b4, .int .u8 b5, .int .u8 b6, .int .u8 b7, .int .u8 b8, .int .u8 b9, .int .u8 b10, .int .u8 b11, .int .u8 b12, .int .u8 b13, .int .u8 b14, .int .u8 b15] k t] h = some (.ret (.tup [.int .u32 (get4 b4 b5 b6 b7), .int .i64 0]), h) := fun f h k t hk => get4_c (m + 2) f h _ _ _ _ _ k t hk
    have g2 : ∀ (f : FuncId) (h : H) (k : Nat) (t : Bool), 4 ≤ k → (evAll TE (m + 12)).1 f (.fn 60 [] []) [.sl [.int .u8 b8, .int .u8 b9, .int .u8 b10, .int .u8 b11, .int .u8 b12, .int .u8 b13, .int .u8 b14, .int .u8 b15] k t] h = some (.ret (.tup [.int .u32 (get4 b8 b9 b10 b11), .int .i64 0]), h) := fun f h k t hk => get4_c (m + 2) f h _ _ _ _ _ k t hk
    generalize get4 b4 b5 b6 b7 = nd at g1 ⊢
    generalize get4 b8 b9 b10 b11 = ge at g2 ⊢
    have c1 : ∀ (f : FuncId) (h : H), (evAll TE (m + 12)).1 f (.fn 61 [] []) [.int .u32 nd, .int .u32 ge] h = some (.ret (.agg (numsA .u8 (bytesS nd ge))), h) := fun f h => bytes_c (m + 1) f h nd ge
    obtain ⟨y0, y1, y2, y3, y4, y5, y6, y7, y8, y9, y10, y11, y12, y13, y14, y15, hy⟩ := len16 (show (bytesS nd ge).length = 16 from rfl)
    rw [hy] at c1 ⊢
    have c1 : ∀ (f : FuncId) (h : H), (evAll TE (m + 12)).1 f (.fn 61 [] []) [.int .u32 nd, .int .u32 ge] h = some (.ret (.agg [.int .u8 y0, .int .u8 y1, .int .u8 y2, .int .u8 y3, .int .u8 y4, .int .u8 y5, .int .u8 y6, .int .u8 y7, .int .u8 y8, .int .u8 y9, .int .u8 y10, .int .u8 y11, .int .u8 y12, .int .u8 y13, .int .u8 y14, .int .u8 y15]), h) := c1
    clear hy
    cases q1 : decide (nd < 1) with
    | true =>
      rw [if_pos (by rw [Bool.true_or])]
      unfold getHA
      refine call_clean (fn := Try.f33) rfl Try.func33 rfl rfl rfl rfl rfl (Nat.le_of_ble_eq_true rfl) ?_
      conv => whnf
      (refine call_lay ?_)
      conv => whnf
      with_reducible refine ⟨_, _, g1 _ _ _ _ (Nat.le_of_ble_eq_true rfl), ?_⟩
      conv => whnf
      (refine call_lay ?_)
      conv => whnf
      with_reducible refine ⟨_, _, g2 _ _ _ _ (Nat.le_of_ble_eq_true rfl), ?_⟩
      conv => whnf
      ((with_reducible cases z0 : decide (nd < Int.ofNat 1)) <;> try exact Bool.noConfusion (Eq.trans (Eq.symm z0) q1))
      conv => whnf
      (refine ⟨by kernel_rfl, ?_⟩)
      conv => whnf
      rfl
    | false =>
      cases q2 : decide (nd > 1024) with
      | true =>
        rw [if_pos (by rw [Bool.true_or, Bool.or_true])]
        unfold getHA
        refine call_clean (fn := Try.f33) rfl Try.func33 rfl rfl rfl rfl rfl (Nat.le_of_ble_eq_true rfl) ?_
        conv => whnf
        (refine call_lay ?_)
        conv => whnf
        with_reducible refine ⟨_, _, g1 _ _ _ _ (Nat.le_of_ble_eq_true rfl), ?_⟩
        conv => whnf
        (refine call_lay ?_)
        conv => whnf
        with_reducible refine ⟨_, _, g2 _ _ _ _ (Nat.le_of_ble_eq_true rfl), ?_⟩
        conv => whnf
        ((with_reducible cases z0 : decide (nd < Int.ofNat 1)) <;> try exact Bool.noConfusion (Eq.trans (Eq.symm z0) q1))
        conv => whnf
        ((with_reducible cases z1 : decide (nd > Int.ofNat 1024)) <;> try exact Bool.noConfusion (Eq.trans (Eq.symm z1) q2))
        conv => whnf
        (refine ⟨by kernel_rfl, ?_⟩)
        conv => whnf
        rfl
      | false =>
        cases q3 : eqL [y0, y1, y2, y3, y4, y5, y6, y7, y8, y9, y10, y11, y12, y13, y14, y15] [b0, b1, b2, b3, b4, b5, b6, b7, b8, b9, b10, b11, b12, b13, b14, b15] with
        | true =>
          rw [if_neg (by simp)]
          unfold getHA
          simp only [eqL] at q3
          refine call_clean (fn := Try.f33) rfl Try.func33 rfl rfl rfl rfl rfl (Nat.le_of_ble_eq_true rfl) ?_
          conv => whnf
          (refine call_lay ?_)
          conv => whnf
          with_reducible refine ⟨_, _, g1 _ _ _ _ (Nat.le_of_ble_eq_true rfl), ?_⟩
          conv => whnf
          (refine call_lay ?_)
          conv => whnf
          with_reducible refine ⟨_, _, g2 _ _ _ _ (Nat.le_of_ble_eq_true rfl), ?_⟩
          conv => whnf
          ((with_reducible cases z0 : decide (nd < Int.ofNat 1)) <;> try exact Bool.noConfusion (Eq.trans (Eq.symm z0) q1))
          conv => whnf
          ((with_reducible cases z1 : decide (nd > Int.ofNat 1024)) <;> try exact Bool.noConfusion (Eq.trans (Eq.symm z1) q2))
          conv => whnf
          with_reducible refine ⟨_, _, c1 _ _, ?_⟩
          conv => whnf
          (refine ⟨by kernel_rfl, ?_⟩)
          conv => whnf
          (refine ⟨by kernel_rfl, ?_⟩)
          conv => whnf
          ((with_reducible cases z2 : y0 == b0 && (y1 == b1 && (y2 == b2 && (y3 == b3 && (y4 == b4 && (y5 == b5 && (y6 == b6 && (y7 == b7 && (y8 == b8 && (y9 == b9 && (y10 == b10 && (y11 == b11 && (y12 == b12 && (y13 == b13 && (y14 == b14 && (y15 == b15 && true)))))))))))))))) <;> try exact Bool.noConfusion (Eq.trans (Eq.symm z2) q3))
          conv => whnf
        | false =>
          rw [if_pos (by simp)]
          unfold getHA
          simp only [eqL] at q3
          refine call_clean (fn := Try.f33) rfl Try.func33 rfl rfl rfl rfl rfl (Nat.le_of_ble_eq_true rfl) ?_
          conv => whnf
          (refine call_lay ?_)
          conv => whnf
          with_reducible refine ⟨_, _, g1 _ _ _ _ (Nat.le_of_ble_eq_true rfl), ?_⟩
          conv => whnf
          (refine call_lay ?_)
          conv => whnf
          with_reducible refine ⟨_, _, g2 _ _ _ _ (Nat.le_of_ble_eq_true rfl), ?_⟩
          conv => whnf
          ((with_reducible cases z0 : decide (nd < Int.ofNat 1)) <;> try exact Bool.noConfusion (Eq.trans (Eq.symm z0) q1))
          conv => whnf
          ((with_reducible cases z1 : decide (nd > Int.ofNat 1024)) <;> try exact Bool.noConfusion (Eq.trans (Eq.symm z1) q2))
          conv => whnf
          with_reducible refine ⟨_, _, c1 _ _, ?_⟩
          conv => whnf
          (refine ⟨by kernel_rfl, ?_⟩)
          conv => whnf
          (refine ⟨by kernel_rfl, ?_⟩)
          conv => whnf
          ((with_reducible cases z2 : y0 == b0 && (y1 == b1 && (y2 == b2 && (y3 == b3 && (y4 == b4 && (y5 == b5 && (y6 == b6 && (y7 == b7 && (y8 == b8 && (y9 == b9 && (y10 == b10 && (y11 == b11 && (y12 == b12 && (y13 == b13 && (y14 == b14 && (y15 == b15 && true)))))))))))))))) <;> try exact Bool.noConfusion (Eq.trans (Eq.symm z2) q3))
          conv => whnf
          rfl
end Go.Proofs.Ytnkeijebkpjdgaa.Ab
/- Over the engine: the handle of a node, the node of a handle, of a name. -/
namespace Go.Proofs.Ytnkeijebkpjdgaa.Ab
open Go Go.RowKit

set_option maxRecDepth 100000
theorem there_facts {ns : List NodeS} {n : Int} (h : thereS ns n = true) : 0 < n ∧ n < ns.length ∧ (kindS ns n != 0) = true := by
  unfold thereS at h
  simp only [Bool.and_eq_true, decide_eq_true_eq] at h
  exact h
def genS (ns : List NodeS) (n : Int) : Int := match ns[n.toNat]? with
  | some x => x.gen
  | none => 0
def handleA (ns : List NodeS) (n : Int) : AV := if (!thereS ns n || decide (n > 1024)) = true then .tup [.sl0, .int .i64 1] else .tup [.sl (numsA .u8 (bytesS (IntKind.wrap .u32 n) (genS ns n))) 16 false, .int .i64 0]
theorem handle_c (m : Nat) (from_ : FuncId) (h : H) (v : AV) (ns : List NodeS) (hv : nodesOk v ns) (gen n : Int) : evCall TE (m + 14) from_ (.fn 13 [] []) [.agg [v, .int .u32 gen], .int .i64 n] h = some (.ret (handleA ns n), h) := by
  have c1 : ∀ (f : FuncId) (h : H), (evAll TE (m + 13)).1 f (.fn 21 [] []) [.agg [v, .int .u32 gen], .int .i64 n] h = some (.ret (.bool (thereS ns n)), h) := fun f h => there_c (m + 12) f h v ns hv gen n
  cases ht : thereS ns n with
  | false =>
    rw [ht] at c1
    have e : handleA ns n = .tup [.sl0, .int .i64 1] := by
      unfold handleA
      rw [ht]
      rfl
    rw [e]
    rcases hv with ⟨rfl, rfl⟩ | ⟨t, rfl⟩
    · refine call_clean (fn := Try.f13) rfl Try.func13 rfl rfl rfl rfl rfl (Nat.le_of_ble_eq_true rfl) ?_
      conv => whnf
      with_reducible refine ⟨_, _, c1 _ _, ?_⟩
      conv => whnf
    · refine call_clean (fn := Try.f13) rfl Try.func13 rfl rfl rfl rfl rfl (Nat.le_of_ble_eq_true rfl) ?_
      conv => whnf
      with_reducible refine ⟨_, _, c1 _ _, ?_⟩
      conv => whnf
  | true =>
    rw [ht] at c1
    obtain ⟨h1, h2, _⟩ := there_facts ht
    have h0 : 0 ≤ n := by omega
    obtain ⟨x, hx⟩ : ∃ x, ns[n.toNat]? = some x := ⟨_, List.getElem?_eq_getElem (by omega)⟩
    rcases hv with ⟨rfl, rfl⟩ | ⟨t, rfl⟩
    · simp at hx
    cases hq : decide (n > 1024) with
    | true =>
      have e : handleA ns n = .tup [.sl0, .int .i64 1] := by
        unfold handleA
        rw [ht, hq]
        rfl
      rw [e]
      refine call_clean (fn := Try.f13) rfl Try.func13 rfl rfl rfl rfl rfl (Nat.le_of_ble_eq_true rfl) ?_
      conv => whnf
      with_reducible refine ⟨_, _, c1 _ _, ?_⟩
      conv => whnf
      ((with_reducible cases z0 : decide (n > Int.ofNat 1024)) <;> try exact Bool.noConfusion (Eq.trans (Eq.symm z0) hq))
      conv => whnf
    | false =>
      have e : handleA ns n = .tup [.sl (numsA .u8 (bytesS (IntKind.wrap .u32 n) x.gen)) 16 false, .int .i64 0] := by
        unfold handleA genS
        rw [ht, hq, hx]
        rfl
      rw [e]
      have c2 : ∀ (f : FuncId) (h : H), (evAll TE (m + 13)).1 f (.fn 36 [] []) [.agg [.int .i64 n, .int .u32 x.gen]] h = some (.ret (.tup [.sl (numsA .u8 (bytesS (IntKind.wrap .u32 n) x.gen)) 16 false, .int .i64 0]), h) := fun f h => putH_c m f h n x.gen (by omega) (by have := of_decide_eq_false hq; omega)
      refine call_clean (fn := Try.f13) rfl Try.func13 rfl rfl rfl rfl rfl (Nat.le_of_ble_eq_true rfl) ?_
      conv => whnf
      with_reducible refine ⟨_, _, c1 _ _, ?_⟩
      conv => whnf
      ((with_reducible cases z0 : decide (n > Int.ofNat 1024)) <;> try exact Bool.noConfusion (Eq.trans (Eq.symm z0) hq))
      conv => whnf
      (refine runK_ret (ev_indexSl (sz := 25) rfl rfl rfl rfl h0 h2) ?_)
      conv => whnf
      (refine runK_ret (ev_loadV (z := 1) rfl rfl rfl ((nodesA_cell hx 1 (by decide)).trans rfl)) ?_)
      conv => whnf
      with_reducible refine ⟨_, _, c2 _ _, ?_⟩
      conv => whnf
def findHA (ns : List NodeS) (o : Option (Int × Int)) : AV := match o with
  | none => .tup [.int .i64 0, .int .u32 10001]
  | some (n, g) => if (!thereS ns (IntKind.wrap .i64 n) || (genS ns (IntKind.wrap .i64 n) != g)) = true then .tup [.int .i64 0, .int .u32 70] else .tup [.int .i64 (IntKind.wrap .i64 n), .int .u32 0]
set_option maxHeartbeats 8000000 in
theorem find_c (m : Nat) (from_ : FuncId) (h : H) (v : AV) (ns : List NodeS) (hv : nodesOk v ns) (gen : Int) (w : AV) (l : List Int) (hw : rowOk .u8 w l) : evCall TE (m + 14) from_ (.fn 10 [] []) [.agg [v, .int .u32 gen], w] h = some (.ret (findHA ns (getHS l)), h) := by
  have c1 : ∀ (f : FuncId) (h : H), (evAll TE (m + 13)).1 f (.fn 33 [] []) [w] h = some (.ret (getHA (getHS l)), h) := fun f h => getH_c m f h w l hw
  cases ho : getHS l with
  | none =>
    rw [ho] at c1
    unfold findHA
    unfold getHA at c1
    dsimp only at c1 ⊢
    rcases hv with ⟨rfl, rfl⟩ | ⟨t, rfl⟩ <;> rcases hw with ⟨rfl, rfl⟩ | ⟨t', rfl⟩
    all_goals refine call_clean (fn := Try.f10) rfl Try.func10 rfl rfl rfl rfl rfl (Nat.le_of_ble_eq_true rfl) ?_
    all_goals
      conv => whnf
      with_reducible refine ⟨_, _, c1 _ _, ?_⟩
      conv => whnf
  | some p =>
    obtain ⟨n0, g⟩ := p
    rw [ho] at c1
    unfold findHA
    unfold getHA at c1
    dsimp only at c1 ⊢
    obtain ⟨n, hn⟩ : ∃ n, n = IntKind.wrap .i64 n0 := ⟨_, rfl⟩
    rw [← hn] at c1 ⊢
    have c2 : ∀ (f : FuncId) (h : H), (evAll TE (m + 13)).1 f (.fn 21 [] []) [.agg [v, .int .u32 gen], .int .i64 n] h = some (.ret (.bool (thereS ns n)), h) := fun f h => there_c (m + 12) f h v ns hv gen n
    cases ht : thereS ns n with
    | false =>
      rw [ht] at c2
      rw [if_pos (show (!false || (genS ns n != g)) = true from rfl)]
      rcases hv with ⟨rfl, rfl⟩ | ⟨t, rfl⟩ <;> rcases hw with ⟨rfl, rfl⟩ | ⟨t', rfl⟩
      all_goals refine call_clean (fn := Try.f10) rfl Try.func10 rfl rfl rfl rfl rfl (Nat.le_of_ble_eq_true rfl) ?_
      all_goals
        conv => whnf
        with_reducible refine ⟨_, _, c1 _ _, ?_⟩
        conv => whnf
        with_reducible refine ⟨_, _, c2 _ _, ?_⟩
        conv => whnf
        (refine ⟨by kernel_rfl, ?_⟩)
        conv => whnf
        (refine ⟨by kernel_rfl, ?_⟩)
        conv => whnf
    | true =>
      rw [ht] at c2
      obtain ⟨h1, h2, _⟩ := there_facts ht
      have h0 : 0 ≤ n := by omega
      obtain ⟨x, hx⟩ : ∃ x, ns[n.toNat]? = some x := ⟨_, List.getElem?_eq_getElem (by omega)⟩
      rcases hv with ⟨rfl, rfl⟩ | ⟨t, rfl⟩
      · simp at hx
      have eg : genS ns n = x.gen := by unfold genS; rw [hx]
      rw [eg]
      cases hq : (x.gen != g) with
      | true =>
        rw [if_pos (show (!true || true) = true from rfl)]
        rcases hw with ⟨rfl, rfl⟩ | ⟨t', rfl⟩
        all_goals refine call_clean (fn := Try.f10) rfl Try.func10 rfl rfl rfl rfl rfl (Nat.le_of_ble_eq_true rfl) ?_
        all_goals
          conv => whnf
          with_reducible refine ⟨_, _, c1 _ _, ?_⟩
          conv => whnf
          with_reducible refine ⟨_, _, c2 _ _, ?_⟩
          conv => whnf
          (refine ⟨by kernel_rfl, ?_⟩)
          conv => whnf
          (refine runK_ret (ev_indexSl (sz := 25) rfl rfl rfl rfl h0 h2) ?_)
          conv => whnf
          (refine runK_ret (ev_loadV (z := 1) rfl rfl rfl ((nodesA_cell hx 1 (by decide)).trans rfl)) ?_)
          conv => whnf
          (refine ⟨by kernel_rfl, ?_⟩)
          conv => whnf
          ((with_reducible cases z0 : x.gen != g) <;> try exact Bool.noConfusion (Eq.trans (Eq.symm z0) hq))
          conv => whnf
      | false =>
        rw [if_neg (show ¬ (!true || false) = true by decide)]
        rcases hw with ⟨rfl, rfl⟩ | ⟨t', rfl⟩
        all_goals refine call_clean (fn := Try.f10) rfl Try.func10 rfl rfl rfl rfl rfl (Nat.le_of_ble_eq_true rfl) ?_
        all_goals
          conv => whnf
          with_reducible refine ⟨_, _, c1 _ _, ?_⟩
          conv => whnf
          with_reducible refine ⟨_, _, c2 _ _, ?_⟩
          conv => whnf
          (refine ⟨by kernel_rfl, ?_⟩)
          conv => whnf
          (refine runK_ret (ev_indexSl (sz := 25) rfl rfl rfl rfl h0 h2) ?_)
          conv => whnf
          (refine runK_ret (ev_loadV (z := 1) rfl rfl rfl ((nodesA_cell hx 1 (by decide)).trans rfl)) ?_)
          conv => whnf
          (refine ⟨by kernel_rfl, ?_⟩)
          conv => whnf
          ((with_reducible cases z0 : x.gen != g) <;> try exact Bool.noConfusion (Eq.trans (Eq.symm z0) hq))
          conv => whnf
/-- Where a name stands among entries. -/
def whereS (name : List UInt8) : Int → List EntryS → Int
  | _, [] => -1
  | i, e :: r => if (e.name == name) = true then i else whereS name (i + 1) r
def entsAt (ns : List NodeS) (d : Int) : List EntryS := match ns[d.toNat]? with
  | some x => x.ents
  | none => []
/-- The node of a name in a directory. -/
def entryS (ns : List NodeS) (d : Int) (name : List UInt8) : Int := if dirS ns d = true then if (name == [46]) = true then d else if (name == [46, 46]) = true then parentS ns d else match (entsAt ns d).find? (fun e => e.name == name) with
    | some e => e.node
    | none => 0
  else 0
end Go.Proofs.Ytnkeijebkpjdgaa.Ab
/- Over the engine: the entries of a directory. -/
namespace Go.Proofs.Ytnkeijebkpjdgaa.Ab
open Go Go.RowKit

set_option maxRecDepth 100000
def isNamed (prev : List EntryS) (s : List UInt8) : Bool := prev.any fun e => s == e.name
def namesA (prev : List EntryS) : List (AV × AV) := prev.map fun e => (.str e.name, .int .i64 1)
theorem find_none : ∀ (prev : List EntryS) (s : List UInt8) (i : Nat), isNamed prev s = false → findA (.str s) (namesA prev) i = some none
  | [], _, _, _ => rfl
  | e :: r, s, i, h => by
    unfold isNamed at h
    rw [List.any_cons, Bool.or_eq_false_iff] at h
    show (match sameCell (.str s) (.str e.name) with | some true => _ | some false => _ | none => _) = _
    simp only [sameCell, h.1]
    exact find_none r s (i + 1) h.2
theorem find_some : ∀ (prev : List EntryS) (s : List UInt8) (i : Nat), isNamed prev s = true → ∃ k, findA (.str s) (namesA prev) i = some (some (i + k, .int .i64 1)) ∧ ∀ w, findA (.str s) ((namesA prev).modify k fun e => (e.1, w)) i = some (some (i + k, w))
  | [], _, _, h => by simp [isNamed] at h
  | e :: r, s, i, h => by
    unfold isNamed at h
    rw [List.any_cons] at h
    cases hb : s == e.name with
    | true =>
      refine ⟨0, ?_, fun w => ?_⟩
      · show (match sameCell (.str s) (.str e.name) with | some true => _ | some false => _ | none => _) = _
        simp only [sameCell, hb]
        rfl
      · show (match sameCell (.str s) (.str e.name) with | some true => _ | some false => _ | none => _) = _
        simp only [sameCell, hb]
        rfl
    | false =>
      rw [hb, Bool.false_or] at h
      obtain ⟨k, h1, h2⟩ := find_some r s (i + 1) h
      refine ⟨k + 1, ?_, fun w => ?_⟩
      · show (match sameCell (.str s) (.str e.name) with | some true => _ | some false => _ | none => _) = _
        simp only [sameCell, hb]
        rw [show i + (k + 1) = i + 1 + k by omega]
        exact h1
      · show (match sameCell (.str s) (.str e.name) with | some true => _ | some false => _ | none => _) = _
        simp only [sameCell, hb]
        rw [show i + (k + 1) = i + 1 + k by omega]
        exact h2 w
theorem find_last : ∀ (prev : List EntryS) (s : List UInt8) (i : Nat) (w : AV), isNamed prev s = false → findA (.str s) (namesA prev ++ [(.str s, w)]) i = some (some (i + prev.length, w))
  | [], s, i, w, _ => by
    show (match sameCell (.str s) (.str s) with | some true => _ | some false => _ | none => _) = _
    simp only [sameCell, beq_self_eq_true]
    rfl
  | e :: r, s, i, w, h => by
    unfold isNamed at h
    rw [List.any_cons, Bool.or_eq_false_iff] at h
    show (match sameCell (.str s) (.str e.name) with | some true => _ | some false => _ | none => _) = _
    simp only [sameCell, h.1]
    rw [List.length_cons, show i + (r.length + 1) = i + 1 + r.length by omega]
    exact find_last r s (i + 1) w h.2
theorem topL_app2 : ∀ (a b : List AV), topL (a ++ b) = max (topL a) (topL b)
  | [], b => by simp [topL]
  | x :: a, b => by simp only [List.cons_append, topL, topL_app2 a b, Nat.max_assoc]
theorem names_top : ∀ prev : List EntryS, topL ((namesA prev).map (·.1)) = 0 ∧ topL ((namesA prev).map (·.2)) = 0
  | [] => ⟨rfl, rfl⟩
  | e :: r => by
    obtain ⟨h1, h2⟩ := names_top r
    constructor
    · show max 0 (topL ((namesA r).map (·.1))) = 0
      rw [h1]
      rfl
    · show max 0 (topL ((namesA r).map (·.2))) = 0
      rw [h2]
      rfl
theorem map_top {es : List (AV × AV)} (h1 : topL (es.map (·.1)) = 0) (h2 : topL (es.map (·.2)) = 0) : (AB.map es).top = 0 := by
  simp only [AB.top, h1, h2]
  rfl
theorem modify_top (prev : List EntryS) : ∀ k : Nat, (AB.map ((namesA prev).modify k fun e => (e.1, .int .i64 2))).top = 0 := by
  intro k
  refine map_top ?_ ?_
  · induction prev generalizing k with
    | nil => cases k <;> rfl
    | cons e r ih =>
      cases k with
      | zero =>
        show max 0 (topL ((namesA r).map (·.1))) = 0
        rw [(names_top r).1]
        rfl
      | succ k =>
        show max 0 (topL (((namesA r).modify k fun e => (e.1, .int .i64 2)).map (·.1))) = 0
        rw [ih k]
        rfl
  · induction prev generalizing k with
    | nil => cases k <;> rfl
    | cons e r ih =>
      cases k with
      | zero =>
        show max 0 (topL ((namesA r).map (·.2))) = 0
        rw [(names_top r).2]
        rfl
      | succ k =>
        show max 0 (topL (((namesA r).modify k fun e => (e.1, .int .i64 2)).map (·.2))) = 0
        rw [ih k]
        rfl
/-- What is bad about an entry, behind others. -/
def entBad (ns : List NodeS) (next : Int) (prev : List EntryS) (last : Int) (e : EntryS) : Bool :=
  decide (e.cookie ≤ last) || (decide (e.cookie ≥ next) || (isNamed prev e.name || ((nameSt e.name != 0) || (e.name == [46] || (e.name == [46, 46] || (e.node == 1 || !thereS ns e.node))))))
def entsBad (ns : List NodeS) (next : Int) : List EntryS → Int → List EntryS → Bool
  | _, last, [] => !decide (next > last)
  | prev, last, e :: r => entBad ns next prev last e || entsBad ns next (prev ++ [e]) e.cookie r
def entriesS (ns : List NodeS) (d : NodeS) : Bool := !decide ((d.ents.length : Int) > 1024) && !entsBad ns d.next [] 2 d.ents
def entryLS (ns : List NodeS) (t : Bool) (gen : Int) (d : NodeS) (a : Int × Int) : ST :=
  ⟨RG.of 79 [(17, .int .i64 a.1), (16, .int .i64 d.ents.length), (15, d.list), (6, .mref 2), (5, .int .u64 a.2), (3, .ref 1 0 0), (2, .ref 0 0 0)], ⟨[.cells [.sl (nodesA ns) ns.length t, .int .u32 gen] ⟨false, 0, false, true⟩, .cells (nodeA d) ⟨false, 0, false, true⟩, .map (namesA (d.ents.take a.1.toNat))], []⟩⟩
set_option maxHeartbeats 8000000 in
theorem entries_c (m : Nat) (from_ : FuncId) (h : H) (ns : List NodeS) (t : Bool) (gen : Int) (d : NodeS) (hd : d.ok) (hl : ∀ e ∈ d.ents, e.name.length ≤ 140737488351232) (hn : d.ents.length ≤ 140737488351232) : evCall TE (m + 5) from_ (.fn 27 [] []) [.agg [.sl (nodesA ns) ns.length t, .int .u32 gen], .agg (nodeA d)] h = some (.ret (.bool (entriesS ns d)), h) := by
  have c1 : ∀ (f : FuncId) (h : H) (e : EntryS), e ∈ d.ents → (evAll TE (m + 4)).1 f (.fn 45 [] []) [.str e.name] h = some (.ret (.int .u32 (nameSt e.name)), h) := fun f h e he => name_c m f h e.name (hl e he)
  have c2 : ∀ (f : FuncId) (h : H) (n : Int), (evAll TE (m + 4)).1 f (.fn 21 [] []) [.agg [.sl (nodesA ns) ns.length t, .int .u32 gen], .int .i64 n] h = some (.ret (.bool (thereS ns n)), h) := fun f h n => there_c (m + 3) f h _ ns (.inr ⟨t, rfl⟩) gen n
  obtain ⟨r, hr⟩ : ∃ r, r = entriesS ns d := ⟨_, rfl⟩
  rw [← hr]
  unfold entriesS at hr
  clear hl
  obtain ⟨kd, ge, mo, us, ng, li, xrs, xrn, xws, xwn, ts, tn, da, by_, vf, ta, ls, es, pa, nx⟩ := d
  obtain ⟨hd3, hd4⟩ := hd
  dsimp only at hd3 hd4 c1 hr hn
  rcases hd3 with ⟨rfl, rfl⟩ | ⟨dt, rfl⟩ <;> rcases hd4 with ⟨rfl, rfl⟩ | ⟨lt, rfl⟩
  · refine call_clean (fn := Try.f27) rfl Try.func27 rfl rfl rfl rfl rfl (Nat.le_of_ble_eq_true rfl) ?_
    conv => whnf
    (with_reducible refine ⟨(2 : Nat), ?_, ?_⟩; · exact Nat.le_of_ble_eq_true rfl)
    conv => whnf
    (rw [hr]; simp [entsBad])
  · refine call_clean (fn := Try.f27) rfl Try.func27 rfl rfl rfl rfl rfl (Nat.le_of_ble_eq_true rfl) ?_
    conv => whnf
    cases hg : decide ((es.length : Int) > 1024) with
    | true =>
      conv => whnf
      rw [hr, hg]
      rfl
    | false =>
      rw [hg, Bool.not_false, Bool.true_and] at hr
      conv => whnf
      refine ⟨es.length + 1, by show es.length + 1 ≤ 4611686018427387904; omega, ?_⟩
      refine rounds_ind (entryLS ns t gen ⟨kd, ge, mo, us, ng, li, xrs, xrn, xws, xwn, ts, tn, .sl0, [], vf, ta, (.sl (entriesA es) es.length lt), es, pa, nx⟩) (fun a => 0 ≤ a.1 ∧ a.1 ≤ es.length ∧ r = !entsBad ns nx (es.take a.1.toNat) a.2 (es.drop a.1.toNat)) (fun a => (es.length - a.1).toNat) ?_ _ (0, 2) _ ⟨by omega, by omega, hr⟩ (by simp only; omega) (by kernel_rfl)
      intro a m' hI ih
      obtain ⟨i, la⟩ := a
      dsimp only at hI ih ⊢
      obtain ⟨hI0, hI1, hI2⟩ := hI
      conv => whnf
      cases h1 : decide (i < (es.length : Int)) with
      | false =>
        have h1 := of_decide_eq_false h1
        rw [List.drop_eq_nil_of_le (by omega)] at hI2
        conv => whnf
        (rw [hI2]; simp [entsBad])
      | true =>
        have h1 := of_decide_eq_true h1
        obtain ⟨e, he⟩ : ∃ e, es[i.toNat]? = some e := ⟨_, List.getElem?_eq_getElem (by omega)⟩
        have hc1 : i.toNat * 3 + 3 ≤ (entriesA es).length := by rw [entriesA_len]; omega
        have hd1 := entriesA_entry he
        have c3 := fun f h => c1 f h e (List.mem_of_getElem? he)
        have hdr : es.drop i.toNat = e :: es.drop (i.toNat + 1) := by
          obtain ⟨h3, rfl⟩ := List.getElem?_eq_some_iff.1 he
          exact List.drop_eq_getElem_cons h3
        have htk : es.take (i.toNat + 1) = es.take i.toNat ++ [e] := by
          obtain ⟨h3, rfl⟩ := List.getElem?_eq_some_iff.1 he
          exact List.take_succ_eq_append_getElem h3
        rw [hdr, entsBad] at hI2
        have hw : IntKind.wrap .i64 (i + 1) = i + 1 := wrap64 (by omega) (by omega)
        have hmu : (es.length - IntKind.wrap .i64 (i + 1)).toNat < (es.length - i).toNat := by rw [hw]; omega
        have htn : (IntKind.wrap .i64 (i + 1)).toNat = i.toNat + 1 := by rw [hw]; omega
        have hst : entBad ns nx (es.take i.toNat) la e = false → 0 ≤ IntKind.wrap .i64 (i + 1) ∧ IntKind.wrap .i64 (i + 1) ≤ es.length ∧ r = !entsBad ns nx (es.take (IntKind.wrap .i64 (i + 1)).toNat) e.cookie (es.drop (IntKind.wrap .i64 (i + 1)).toNat) := by
          intro hb
          rw [hb, Bool.false_or] at hI2
          rw [htn, htk]
          exact ⟨by rw [hw]; omega, by rw [hw]; omega, hI2⟩
        have hfa : entBad ns nx (es.take i.toNat) la e = true → r = false := by
          intro hb
          rw [hI2, hb]
          rfl
        have hnm : namesA (es.take (IntKind.wrap .i64 (i + 1)).toNat) = namesA (es.take i.toNat) ++ [(.str e.name, .int .i64 1)] := by
          rw [htn, htk]
          simp [namesA]
        obtain ⟨bd, hbd⟩ : ∃ b, b = entBad ns nx (es.take i.toNat) la e := ⟨_, rfl⟩
        rw [← hbd] at hst hfa
        unfold entBad at hbd
        clear hI2 hdr htk
        generalize es.take i.toNat = prev at *
        generalize nameSt e.name = nst at c3 hbd
        obtain ⟨xa, xb, xc⟩ := e
        dsimp only at c3 hbd hst hnm hd1
        generalize hth : thereS ns xb = th at hbd
        have c4 := fun f h => c2 f h xb
        rw [hth] at c4
        cases hnd : isNamed prev xa with
        | true =>
          obtain ⟨k, hf1, hf2⟩ := find_some prev xa 0 hnd
          have hbt : bd = true := by rw [hbd, hnd]; simp
          rw [Nat.zero_add] at hf1
          rw [hbt] at hfa
          have hf3 := hf2 (.int .i64 2)
          rw [Nat.zero_add] at hf3
          conv => whnf
          (refine runK_ret (ev_indexSl (sz := 3) rfl rfl rfl rfl hI0 h1) ?_)
          conv => whnf
          (refine runK_ret (ev_loadVA (z := 3) rfl rfl rfl hc1 hd1) ?_)
          conv => whnf
          (refine runK_ret (v := .int .i64 1) (w := .none) (by simp only [hf1]; rfl) ?_)
          conv => whnf
          (refine runK_ret (v := .tup []) (w := .blk 2 (.map ((namesA prev).modify k fun e => (e.1, .int .i64 2)))) (by simp only [mapSetA, hf1]; rfl) ?_)
          conv => whnf
          (refine listK_of (if_pos (by rw [modify_top]; exact Nat.zero_le _)) ?_)
          conv => whnf
          cases z0 : decide (xc ≤ la)
          · conv => whnf
            cases z1 : decide (xc ≥ nx)
            · conv => whnf
              (refine runK_ret (v := .int .i64 2) (w := .none) (by simp only [hf3]; rfl) ?_)
              conv => whnf
              (rw [hfa rfl])
            · conv => whnf
              (rw [hfa rfl])
          · conv => whnf
            (rw [hfa rfl])
        | false =>
          have hf1 := find_none prev xa 0 hnd
          have hf2 := find_last prev xa 0 (.int .i64 1) hnd
          rw [hnd] at hbd
          have htp : topL ((namesA prev ++ [(AV.str xa, AV.int .i64 1)]).map (·.1)) = 0 ∧ topL ((namesA prev ++ [(AV.str xa, AV.int .i64 1)]).map (·.2)) = 0 := by
            rw [List.map_append, List.map_append, topL_app2, topL_app2, (names_top prev).1, (names_top prev).2]
            exact ⟨rfl, rfl⟩
          conv => whnf
          (refine runK_ret (ev_indexSl (sz := 3) rfl rfl rfl rfl hI0 h1) ?_)
          conv => whnf
          (refine runK_ret (ev_loadVA (z := 3) rfl rfl rfl hc1 hd1) ?_)
          conv => whnf
          (refine runK_ret (v := .int .i64 0) (w := .none) (by simp only [hf1]; rfl) ?_)
          conv => whnf
          (refine runK_ret (v := .tup []) (w := .blk 2 (.map (namesA prev ++ [(.str xa, .int .i64 1)]))) (by simp only [mapSetA, hf1]; rfl) ?_)
          conv => whnf
          (refine listK_of (if_pos (by rw [map_top htp.1 htp.2]; exact Nat.zero_le _)) ?_)
          conv => whnf
          cases z0 : decide (xc ≤ la)
          · conv => whnf
            cases z1 : decide (xc ≥ nx)
            · conv => whnf
              (refine runK_ret (v := .int .i64 1) (w := .none) (by simp only [hf2]; rfl) ?_)
              conv => whnf
              with_reducible refine ⟨_, _, c3 _ _, ?_⟩
              conv => whnf
              cases z2 : nst != Int.ofNat 0
              · conv => whnf
                cases z3 : xa == [UInt8.ofNat 46]
                · conv => whnf
                  cases z4 : xa == [UInt8.ofNat 46, UInt8.ofNat 46]
                  · conv => whnf
                    cases z5 : xb == Int.ofNat 1
                    · conv => whnf
                      with_reducible refine ⟨_, _, c4 _ _, ?_⟩
                      conv => whnf
                      cases th
                      · conv => whnf
                        (rw [hfa (by clear ih; rw [hbd]; simp_all)])
                      · conv => whnf
                        (exact ih (IntKind.wrap .i64 (i + 1), xc) _ (hst (by clear ih; rw [hbd]; simp_all)) hmu (by unfold entryLS; dsimp only; rw [hnm]; kernel_rfl))
                    · conv => whnf
                      (rw [hfa (by clear ih; rw [hbd]; simp_all)])
                  · conv => whnf
                    (rw [hfa (by clear ih; rw [hbd]; simp_all)])
                · conv => whnf
                  (rw [hfa (by clear ih; rw [hbd]; simp_all)])
              · conv => whnf
                (rw [hfa (by clear ih; rw [hbd]; simp_all)])
            · conv => whnf
              (rw [hfa (by clear ih; rw [hbd]; simp_all)])
          · conv => whnf
            (rw [hfa (by clear ih; rw [hbd]; simp_all)])
  · refine call_clean (fn := Try.f27) rfl Try.func27 rfl rfl rfl rfl rfl (Nat.le_of_ble_eq_true rfl) ?_
    conv => whnf
    (with_reducible refine ⟨(2 : Nat), ?_, ?_⟩; · exact Nat.le_of_ble_eq_true rfl)
    conv => whnf
    (rw [hr]; simp [entsBad])
  · refine call_clean (fn := Try.f27) rfl Try.func27 rfl rfl rfl rfl rfl (Nat.le_of_ble_eq_true rfl) ?_
    conv => whnf
    cases hg : decide ((es.length : Int) > 1024) with
    | true =>
      conv => whnf
      rw [hr, hg]
      rfl
    | false =>
      rw [hg, Bool.not_false, Bool.true_and] at hr
      conv => whnf
      refine ⟨es.length + 1, by show es.length + 1 ≤ 4611686018427387904; omega, ?_⟩
      refine rounds_ind (entryLS ns t gen ⟨kd, ge, mo, us, ng, li, xrs, xrn, xws, xwn, ts, tn, (.sl (numsA .u8 by_) by_.length dt), by_, vf, ta, (.sl (entriesA es) es.length lt), es, pa, nx⟩) (fun a => 0 ≤ a.1 ∧ a.1 ≤ es.length ∧ r = !entsBad ns nx (es.take a.1.toNat) a.2 (es.drop a.1.toNat)) (fun a => (es.length - a.1).toNat) ?_ _ (0, 2) _ ⟨by omega, by omega, hr⟩ (by simp only; omega) (by kernel_rfl)
      intro a m' hI ih
      obtain ⟨i, la⟩ := a
      dsimp only at hI ih ⊢
      obtain ⟨hI0, hI1, hI2⟩ := hI
      conv => whnf
      cases h1 : decide (i < (es.length : Int)) with
      | false =>
        have h1 := of_decide_eq_false h1
        rw [List.drop_eq_nil_of_le (by omega)] at hI2
        conv => whnf
        (rw [hI2]; simp [entsBad])
      | true =>
        have h1 := of_decide_eq_true h1
        obtain ⟨e, he⟩ : ∃ e, es[i.toNat]? = some e := ⟨_, List.getElem?_eq_getElem (by omega)⟩
        have hc1 : i.toNat * 3 + 3 ≤ (entriesA es).length := by rw [entriesA_len]; omega
        have hd1 := entriesA_entry he
        have c3 := fun f h => c1 f h e (List.mem_of_getElem? he)
        have hdr : es.drop i.toNat = e :: es.drop (i.toNat + 1) := by
          obtain ⟨h3, rfl⟩ := List.getElem?_eq_some_iff.1 he
          exact List.drop_eq_getElem_cons h3
        have htk : es.take (i.toNat + 1) = es.take i.toNat ++ [e] := by
          obtain ⟨h3, rfl⟩ := List.getElem?_eq_some_iff.1 he
          exact List.take_succ_eq_append_getElem h3
        rw [hdr, entsBad] at hI2
        have hw : IntKind.wrap .i64 (i + 1) = i + 1 := wrap64 (by omega) (by omega)
        have hmu : (es.length - IntKind.wrap .i64 (i + 1)).toNat < (es.length - i).toNat := by rw [hw]; omega
        have htn : (IntKind.wrap .i64 (i + 1)).toNat = i.toNat + 1 := by rw [hw]; omega
        have hst : entBad ns nx (es.take i.toNat) la e = false → 0 ≤ IntKind.wrap .i64 (i + 1) ∧ IntKind.wrap .i64 (i + 1) ≤ es.length ∧ r = !entsBad ns nx (es.take (IntKind.wrap .i64 (i + 1)).toNat) e.cookie (es.drop (IntKind.wrap .i64 (i + 1)).toNat) := by
          intro hb
          rw [hb, Bool.false_or] at hI2
          rw [htn, htk]
          exact ⟨by rw [hw]; omega, by rw [hw]; omega, hI2⟩
        have hfa : entBad ns nx (es.take i.toNat) la e = true → r = false := by
          intro hb
          rw [hI2, hb]
          rfl
        have hnm : namesA (es.take (IntKind.wrap .i64 (i + 1)).toNat) = namesA (es.take i.toNat) ++ [(.str e.name, .int .i64 1)] := by
          rw [htn, htk]
          simp [namesA]
        obtain ⟨bd, hbd⟩ : ∃ b, b = entBad ns nx (es.take i.toNat) la e := ⟨_, rfl⟩
        rw [← hbd] at hst hfa
        unfold entBad at hbd
        clear hI2 hdr htk
        generalize es.take i.toNat = prev at *
        generalize nameSt e.name = nst at c3 hbd
        obtain ⟨xa, xb, xc⟩ := e
        dsimp only at c3 hbd hst hnm hd1
        generalize hth : thereS ns xb = th at hbd
        have c4 := fun f h => c2 f h xb
        rw [hth] at c4
        cases hnd : isNamed prev xa with
        | true =>
          obtain ⟨k, hf1, hf2⟩ := find_some prev xa 0 hnd
          have hbt : bd = true := by rw [hbd, hnd]; simp
          rw [Nat.zero_add] at hf1
          rw [hbt] at hfa
          have hf3 := hf2 (.int .i64 2)
          rw [Nat.zero_add] at hf3
          conv => whnf
          (refine runK_ret (ev_indexSl (sz := 3) rfl rfl rfl rfl hI0 h1) ?_)
          conv => whnf
          (refine runK_ret (ev_loadVA (z := 3) rfl rfl rfl hc1 hd1) ?_)
          conv => whnf
          (refine runK_ret (v := .int .i64 1) (w := .none) (by simp only [hf1]; rfl) ?_)
          conv => whnf
          (refine runK_ret (v := .tup []) (w := .blk 2 (.map ((namesA prev).modify k fun e => (e.1, .int .i64 2)))) (by simp only [mapSetA, hf1]; rfl) ?_)
          conv => whnf
          (refine listK_of (if_pos (by rw [modify_top]; exact Nat.zero_le _)) ?_)
          conv => whnf
          cases z0 : decide (xc ≤ la)
          · conv => whnf
            cases z1 : decide (xc ≥ nx)
            · conv => whnf
              (refine runK_ret (v := .int .i64 2) (w := .none) (by simp only [hf3]; rfl) ?_)
              conv => whnf
              (rw [hfa rfl])
            · conv => whnf
              (rw [hfa rfl])
          · conv => whnf
            (rw [hfa rfl])
        | false =>
          have hf1 := find_none prev xa 0 hnd
          have hf2 := find_last prev xa 0 (.int .i64 1) hnd
          rw [hnd] at hbd
          have htp : topL ((namesA prev ++ [(AV.str xa, AV.int .i64 1)]).map (·.1)) = 0 ∧ topL ((namesA prev ++ [(AV.str xa, AV.int .i64 1)]).map (·.2)) = 0 := by
            rw [List.map_append, List.map_append, topL_app2, topL_app2, (names_top prev).1, (names_top prev).2]
            exact ⟨rfl, rfl⟩
          conv => whnf
          (refine runK_ret (ev_indexSl (sz := 3) rfl rfl rfl rfl hI0 h1) ?_)
          conv => whnf
          (refine runK_ret (ev_loadVA (z := 3) rfl rfl rfl hc1 hd1) ?_)
          conv => whnf
          (refine runK_ret (v := .int .i64 0) (w := .none) (by simp only [hf1]; rfl) ?_)
          conv => whnf
          (refine runK_ret (v := .tup []) (w := .blk 2 (.map (namesA prev ++ [(.str xa, .int .i64 1)]))) (by simp only [mapSetA, hf1]; rfl) ?_)
          conv => whnf
          (refine listK_of (if_pos (by rw [map_top htp.1 htp.2]; exact Nat.zero_le _)) ?_)
          conv => whnf
          cases z0 : decide (xc ≤ la)
          · conv => whnf
            cases z1 : decide (xc ≥ nx)
            · conv => whnf
              (refine runK_ret (v := .int .i64 1) (w := .none) (by simp only [hf2]; rfl) ?_)
              conv => whnf
              with_reducible refine ⟨_, _, c3 _ _, ?_⟩
              conv => whnf
              cases z2 : nst != Int.ofNat 0
              · conv => whnf
                cases z3 : xa == [UInt8.ofNat 46]
                · conv => whnf
                  cases z4 : xa == [UInt8.ofNat 46, UInt8.ofNat 46]
                  · conv => whnf
                    cases z5 : xb == Int.ofNat 1
                    · conv => whnf
                      with_reducible refine ⟨_, _, c4 _ _, ?_⟩
                      conv => whnf
                      cases th
                      · conv => whnf
                        (rw [hfa (by clear ih; rw [hbd]; simp_all)])
                      · conv => whnf
                        (exact ih (IntKind.wrap .i64 (i + 1), xc) _ (hst (by clear ih; rw [hbd]; simp_all)) hmu (by unfold entryLS; dsimp only; rw [hnm]; kernel_rfl))
                    · conv => whnf
                      (rw [hfa (by clear ih; rw [hbd]; simp_all)])
                  · conv => whnf
                    (rw [hfa (by clear ih; rw [hbd]; simp_all)])
                · conv => whnf
                  (rw [hfa (by clear ih; rw [hbd]; simp_all)])
              · conv => whnf
                (rw [hfa (by clear ih; rw [hbd]; simp_all)])
            · conv => whnf
              (rw [hfa (by clear ih; rw [hbd]; simp_all)])
          · conv => whnf
            (rw [hfa (by clear ih; rw [hbd]; simp_all)])
end Go.Proofs.Ytnkeijebkpjdgaa.Ab
/- Over the engine: nodes that have what they may not; directories within one another. -/
namespace Go.Proofs.Ytnkeijebkpjdgaa.Ab
open Go Go.RowKit

set_option maxRecDepth 100000
theorem bad1_c (m : Nat) (from_ : FuncId) (h : H) (x : NodeS) (hx : x.ok) (hl : x.target.length ≤ 140737488351232) : evCall TE (m + 6) from_ (.fn 23 [] []) [.agg (nodeA x)] h = some (.ret (.bool (!onlyS x)), h) := by
  have c1 : ∀ (f : FuncId) (h : H), (evAll TE (m + 5)).1 f (.fn 24 [] []) [.agg (nodeA x)] h = some (.ret (.bool (onlyS x)), h) := fun f h => only_c m f h x hx hl
  generalize onlyS x = q at c1 ⊢
  unfold nodeA at c1 ⊢
  obtain ⟨kd, ge, mo, us, ng, li, xrs, xrn, xws, xwn, ts, tn, da, by_, vf, ta, ls, es, pa, nx⟩ := x
  simp only [NodeS.ok, rowOk, entsOk] at hx
  obtain ⟨hd3, hd4⟩ := hx
  dsimp only at c1 ⊢
  rcases hd3 with ⟨rfl, rfl⟩ | ⟨dt, rfl⟩ <;> rcases hd4 with ⟨rfl, rfl⟩ | ⟨lt, rfl⟩
  all_goals refine call_clean (fn := Try.f23) rfl Try.func23 rfl rfl rfl rfl rfl (Nat.le_of_ble_eq_true rfl) ?_
  all_goals
    conv => whnf
    with_reducible refine ⟨_, _, c1 _ _, ?_⟩
    conv => whnf
def anyBad (ns : List NodeS) : Bool := ns.any fun x => !onlyS x
theorem anyBad_drop {ns : List NodeS} {i : Nat} {x : NodeS} (h : ns[i]? = some x) : anyBad (ns.drop i) = (!onlyS x || anyBad (ns.drop (i + 1))) := by
  obtain ⟨h1, rfl⟩ := List.getElem?_eq_some_iff.1 h
  unfold anyBad
  rw [List.drop_eq_getElem_cons h1, List.any_cons]
def idxbS (ns : List NodeS) (t : Bool) (i : Int) : ST :=
  ⟨RG.of 19 [(8, .int .i64 i), (7, .int .i64 ns.length), (1, .fn 23 [] []), (0, .sl (nodesA ns) ns.length t)], ⟨[], []⟩⟩
set_option maxHeartbeats 4000000 in
theorem index_bad (m : Nat) (ns : List NodeS) (t : Bool) (hok : ∀ x ∈ ns, x.ok ∧ x.target.length ≤ 140737488351232) (hl : ns.length ≤ 140737488351232) : ∃ v, (∃ r : Int, v = .int .i64 r ∧ decide (r ≥ 0) = anyBad ns) ∧ ∀ (from_ : FuncId) (h : H), evCall TE (m + 7) from_ (.fn 42 [] []) [.sl (nodesA ns) ns.length t, .fn 23 [] []] h = some (.ret v, h) := by
  refine call_cleanP (fn := Try.f42) rfl Try.func42 rfl (fun _ => rfl) rfl rfl (Nat.le_of_ble_eq_true rfl) ?_
  conv => whnf
  refine ⟨ns.length + 1, by show ns.length + 1 ≤ 4611686018427387904; omega, ?_⟩
  refine rounds_ind (idxbS ns t) (fun i => 0 ≤ i ∧ i ≤ ns.length ∧ anyBad ns = anyBad (ns.drop i.toNat)) (fun i => (ns.length - i).toNat) ?_ _ 0 _ ⟨by omega, by omega, rfl⟩ (by omega) (by kernel_rfl)
  intro i m' hI ih
  obtain ⟨hI0, hI1, hI2⟩ := hI
  conv => whnf
  cases h1 : decide (i < (ns.length : Int)) with
  | false =>
    have h1 := of_decide_eq_false h1
    rw [List.drop_eq_nil_of_le (by omega)] at hI2
    conv => whnf
    (exact ⟨rfl, _, rfl, by rw [hI2]; rfl⟩)
  | true =>
    have h1 := of_decide_eq_true h1
    obtain ⟨x, hx⟩ : ∃ x, ns[i.toNat]? = some x := ⟨_, List.getElem?_eq_getElem (by omega)⟩
    have hc1 : i.toNat * 25 + 25 ≤ (nodesA ns).length := by rw [nodesA_len]; omega
    have hd1 := nodesA_node hx
    have k1 := hok x (List.mem_of_getElem? hx)
    have c1 : ∀ (f : FuncId) (h : H), (evAll TE (m + 6)).1 f (.fn 23 [] []) [.agg (nodeA x)] h = some (.ret (.bool (!onlyS x)), h) := fun f h => bad1_c m f h x k1.1 k1.2
    rw [anyBad_drop hx] at hI2
    generalize onlyS x = q at c1 hI2
    unfold nodeA at c1
    have hw : IntKind.wrap .i64 (i + 1) = i + 1 := wrap64 (by omega) (by omega)
    have hmu : (ns.length - IntKind.wrap .i64 (i + 1)).toNat < (ns.length - i).toNat := by rw [hw]; omega
    have hst : q = true → 0 ≤ IntKind.wrap .i64 (i + 1) ∧ IntKind.wrap .i64 (i + 1) ≤ ns.length ∧ anyBad ns = anyBad (ns.drop (IntKind.wrap .i64 (i + 1)).toNat) := by
      intro he
      rw [he] at hI2
      rw [hw, show (i + 1).toNat = i.toNat + 1 by omega]
      exact ⟨by omega, by omega, hI2⟩
    have hfa : q = false → decide (i ≥ 0) = anyBad ns := by
      intro he
      rw [hI2, he, decide_eq_true hI0]
      rfl
    cases q with
    | true =>
      conv => whnf
      (refine runK_ret (ev_indexSl (sz := 25) rfl rfl rfl rfl hI0 h1) ?_)
      conv => whnf
      (refine runK_ret (ev_loadVA (z := 25) rfl rfl rfl hc1 hd1) ?_)
      conv => whnf
      with_reducible refine ⟨_, _, c1 _ _, ?_⟩
      conv => whnf
      (exact ih (IntKind.wrap .i64 (i + 1)) _ (hst rfl) hmu (by kernel_rfl))
    | false =>
      conv => whnf
      (refine runK_ret (ev_indexSl (sz := 25) rfl rfl rfl rfl hI0 h1) ?_)
      conv => whnf
      (refine runK_ret (ev_loadVA (z := 25) rfl rfl rfl hc1 hd1) ?_)
      conv => whnf
      with_reducible refine ⟨_, _, c1 _ _, ?_⟩
      conv => whnf
      (exact ⟨rfl, _, rfl, hfa rfl⟩)
theorem contains_bad (m : Nat) (from_ : FuncId) (h : H) (ns : List NodeS) (t : Bool) (hok : ∀ x ∈ ns, x.ok ∧ x.target.length ≤ 140737488351232) (hl : ns.length ≤ 140737488351232) : evCall TE (m + 8) from_ (.fn 22 [] []) [.sl (nodesA ns) ns.length t, .fn 23 [] []] h = some (.ret (.bool (anyBad ns)), h) := by
  obtain ⟨_, ⟨r, rfl, hr⟩, hc⟩ := index_bad m ns t hok hl
  have c1 : ∀ (f : FuncId) (h : H), (evAll TE (m + 7)).1 f (.fn 42 [] []) [.sl (nodesA ns) ns.length t, .fn 23 [] []] h = some (.ret (.int .i64 r), h) := fun f h => hc f h
  rw [← hr]
  refine call_clean (fn := Try.f22) rfl Try.func22 rfl rfl rfl rfl rfl (Nat.le_of_ble_eq_true rfl) ?_
  conv => whnf
  with_reducible refine ⟨_, _, c1 _ _, ?_⟩
  conv => whnf
end Go.Proofs.Ytnkeijebkpjdgaa.Ab
/- Over the engine: how great a tree is. -/
namespace Go.Proofs.Ytnkeijebkpjdgaa.Ab
open Go Go.RowKit

def entsSize (l : List EntryS) : Int := l.length + (l.map fun e => (e.name.length : Int)).sum
def nodeSize (x : NodeS) : Int := 1 + x.target.length + x.bytes.length + entsSize x.ents
def nodesSize (l : List NodeS) : Int := l.length + (l.map nodeSize).sum
set_option maxRecDepth 100000
def entsS (l : List EntryS) (t : Bool) (p : Int × Int) : ST :=
  ⟨RG.of 26 [(4, .int .i64 p.1), (3, .int .i64 p.2), (0, .sl (entriesA l) l.length t)], ⟨[], []⟩⟩
def nodesSS (l : List NodeS) (t : Bool) (p : Int × Int) : ST :=
  ⟨RG.of 25 [(4, .int .i64 p.1), (3, .int .i64 p.2), (0, .sl (nodesA l) l.length t)], ⟨[], []⟩⟩
def treeSize (t : TreeS) : Int := 1 + nodesSize t.ns
end Go.Proofs.Ytnkeijebkpjdgaa.Ab
/- Over the engine: trees that come as arguments. -/
namespace Go.Proofs.Ytnkeijebkpjdgaa.Ab
open Go Go.RowKit

def timeTy : Ty := .seq [.int .u32, .int .u32]
def entryTy : Ty := .seq [.str, .int .i64, .int .u64]
def nodeTyL : List Ty := [.int .u32, .int .u32, .int .u32, .int .u32, .int .u32, .int .i64, timeTy, timeTy, timeTy, .sl 1 (.int .u8), .seq [.int .u8, .int .u8, .int .u8, .int .u8, .int .u8, .int .u8, .int .u8, .int .u8], .str, .sl 32 entryTy, .int .i64, .int .u64]
def nodeTy (B : Nat) : Ty := .sl B (.seq nodeTyL)
theorem rows_of {α : Type} (f : α → List AV) (P : α → Prop) : ∀ rows : List (List AV), (∀ r ∈ rows, ∃ x, r = f x ∧ P x) → ∃ l : List α, rows = l.map f ∧ ∀ x ∈ l, P x
  | [], _ => ⟨[], rfl, fun x h => by cases h⟩
  | r :: rows, h => by
    obtain ⟨x, hx, hp⟩ := h r (List.mem_cons_self ..)
    obtain ⟨l, hl, hP⟩ := rows_of f P rows fun r hr => h r (List.mem_cons_of_mem _ hr)
    exact ⟨x :: l, by rw [hx, hl]; rfl, fun y hy => by
      rcases List.mem_cons.1 hy with rfl | hy
      · exact hp
      · exact hP y hy⟩
theorem wf_u8 {x : Int} (h : (Lit.int .u8 x).wf = true) : 0 ≤ x ∧ x < 256 := by
  simp only [Lit.wf, Bool.and_eq_true, decide_eq_true_eq] at h
  rw [show IntKind.u8.min = 0 from rfl, show IntKind.u8.max = 255 from rfl] at h
  omega
theorem nums_flat (k : IntKind) : ∀ l : List Int, (l.map fun n : Int => [AV.int k n]).flatten = numsA k l
  | [] => rfl
  | n :: l => by
    rw [List.map_cons, List.flatten_cons, nums_flat k l]
    rfl
theorem sh_row {k : IntKind} {B : Nat} {v : AV} (h : Sh (.sl B (.int k)) [v]) : ∃ l, rowOk k v l ∧ (∀ n ∈ l, (Lit.int k n).wf = true) ∧ l.length * B ≤ 140737488351232 := by
  unfold Sh at h
  rcases h with h | ⟨rows, t, h, hr, hB, _⟩
  · cases h
    refine ⟨[], .inl ⟨rfl, rfl⟩, ?_, Nat.le_trans (Nat.le_of_eq (Nat.zero_mul _)) (Nat.zero_le _)⟩
    intro n hn
    cases hn
  · cases h
    obtain ⟨l, rfl, hl⟩ := rows_of (fun n : Int => [AV.int k n]) (fun n => (Lit.int k n).wf = true) rows fun r hr' => by
      have := hr r hr'
      unfold Sh at this
      exact this
    refine ⟨l, .inr ⟨t, ?_⟩, hl, by simpa using hB⟩
    rw [nums_flat, List.length_map]
def treeTyL (B : Nat) : List Ty := [nodeTy B, .int .u32]
def credTyL : List Ty := [.int .u32, .int .u32, .sl 4 (.int .u32)]
end Go.Proofs.Ytnkeijebkpjdgaa.Ab
/- Over the engine: may a tree be. -/
namespace Go.Proofs.Ytnkeijebkpjdgaa.Ab
open Go Go.RowKit

/-- What is asked of a node, that nodes.Check may be walked. -/
structure NodeS.few (x : NodeS) : Prop where
  target : x.target.length ≤ 140737488351232
  ents : ∀ e ∈ x.ents, e.name.length ≤ 140737488351232
  entsL : x.ents.length * 32 ≤ 140737488351232
theorem NodeS.rng.few {x : NodeS} (h : x.rng) : x.few := ⟨h.target, fun e he => (h.ents e he).1, h.entsL⟩
set_option maxRecDepth 100000
theorem timesC_c (m : Nat) (from_ : FuncId) (h : H) (s n : Int) : evCall TE (m + 1) from_ (.fn 26 [] []) [.agg [.int .u32 s, .int .u32 n]] h = some (.ret (.bool (decide (n < 1000000000))), h) := by
  refine call_clean (fn := Try.f26) rfl Try.func26 rfl rfl rfl rfl rfl (Nat.le_of_ble_eq_true rfl) ?_
  conv => whnf
/-- Numbers that were counted once each. -/
def gensA (g : List Int) : List (AV × AV) := g.map fun n => (.int .u32 n, .int .i64 1)
def isGen (g : List Int) (n : Int) : Bool := g.any fun k => n == k
theorem gen_none : ∀ (g : List Int) (n : Int) (i : Nat), isGen g n = false → findA (.int .u32 n) (gensA g) i = some none
  | [], _, _, _ => rfl
  | k :: r, n, i, h => by
    unfold isGen at h
    rw [List.any_cons, Bool.or_eq_false_iff] at h
    show (match sameCell (.int .u32 n) (.int .u32 k) with | some true => _ | some false => _ | none => _) = _
    simp only [sameCell, h.1, if_true]
    exact gen_none r n (i + 1) h.2
theorem gen_some : ∀ (g : List Int) (n : Int) (i : Nat), isGen g n = true → ∃ k, findA (.int .u32 n) (gensA g) i = some (some (i + k, .int .i64 1)) ∧ ∀ w, findA (.int .u32 n) ((gensA g).modify k fun e => (e.1, w)) i = some (some (i + k, w))
  | [], _, _, h => by simp [isGen] at h
  | a :: r, n, i, h => by
    unfold isGen at h
    rw [List.any_cons] at h
    cases hb : n == a with
    | true =>
      refine ⟨0, ?_, fun w => ?_⟩
      · show (match sameCell (.int .u32 n) (.int .u32 a) with | some true => _ | some false => _ | none => _) = _
        simp only [sameCell, hb, if_true]
        rfl
      · show (match sameCell (.int .u32 n) (.int .u32 a) with | some true => _ | some false => _ | none => _) = _
        simp only [sameCell, hb, if_true]
        rfl
    | false =>
      rw [hb, Bool.false_or] at h
      obtain ⟨k, h1, h2⟩ := gen_some r n (i + 1) h
      refine ⟨k + 1, ?_, fun w => ?_⟩
      · show (match sameCell (.int .u32 n) (.int .u32 a) with | some true => _ | some false => _ | none => _) = _
        simp only [sameCell, hb, if_true]
        rw [show i + (k + 1) = i + 1 + k by omega]
        exact h1
      · show (match sameCell (.int .u32 n) (.int .u32 a) with | some true => _ | some false => _ | none => _) = _
        simp only [sameCell, hb, if_true]
        rw [show i + (k + 1) = i + 1 + k by omega]
        exact h2 w
theorem gen_last : ∀ (g : List Int) (n : Int) (i : Nat) (w : AV), isGen g n = false → findA (.int .u32 n) (gensA g ++ [(.int .u32 n, w)]) i = some (some (i + g.length, w))
  | [], n, i, w, _ => by
    show (match sameCell (.int .u32 n) (.int .u32 n) with | some true => _ | some false => _ | none => _) = _
    simp only [sameCell, beq_self_eq_true, if_true]
    rfl
  | a :: r, n, i, w, h => by
    unfold isGen at h
    rw [List.any_cons, Bool.or_eq_false_iff] at h
    show (match sameCell (.int .u32 n) (.int .u32 a) with | some true => _ | some false => _ | none => _) = _
    simp only [sameCell, h.1, if_true]
    rw [List.length_cons, show i + (r.length + 1) = i + 1 + r.length by omega]
    exact gen_last r n (i + 1) w h.2
theorem gens_top : ∀ g : List Int, topL ((gensA g).map (·.1)) = 0 ∧ topL ((gensA g).map (·.2)) = 0
  | [] => ⟨rfl, rfl⟩
  | e :: r => by
    obtain ⟨h1, h2⟩ := gens_top r
    constructor
    · show max 0 (topL ((gensA r).map (·.1))) = 0
      rw [h1]
      rfl
    · show max 0 (topL ((gensA r).map (·.2))) = 0
      rw [h2]
      rfl
theorem gmod_top (g : List Int) : ∀ k : Nat, (AB.map ((gensA g).modify k fun e => (e.1, .int .i64 2))).top = 0 := by
  intro k
  refine map_top ?_ ?_
  · induction g generalizing k with
    | nil => cases k <;> rfl
    | cons e r ih =>
      cases k with
      | zero =>
        show max 0 (topL ((gensA r).map (·.1))) = 0
        rw [(gens_top r).1]
        rfl
      | succ k =>
        show max 0 (topL (((gensA r).modify k fun e => (e.1, .int .i64 2)).map (·.1))) = 0
        rw [ih k]
        rfl
  · induction g generalizing k with
    | nil => cases k <;> rfl
    | cons e r ih =>
      cases k with
      | zero =>
        show max 0 (topL ((gensA r).map (·.2))) = 0
        rw [(gens_top r).2]
        rfl
      | succ k =>
        show max 0 (topL (((gensA r).modify k fun e => (e.1, .int .i64 2)).map (·.2))) = 0
        rw [ih k]
        rfl
/-- What is counted: how often each node is named, of how many directories, and where. -/
structure Cnt where
  named : List Int
  subs : List Int
  home : List Int
def bump (l : List Int) (k : Int) : List Int := l.set k.toNat (IntKind.wrap .i64 ((l[k.toNat]?).getD 0 + 1))
def stepE (ns : List NodeS) (i : Int) (c : Cnt) (e : EntryS) : Cnt := ⟨bump c.named e.node, if dirS ns e.node = true then bump c.subs i else c.subs, c.home.set e.node.toNat i⟩
def cntE (ns : List NodeS) (i : Int) : Cnt → List EntryS → Cnt
  | c, [] => c
  | c, e :: r => cntE ns i (stepE ns i c e) r
def Cnt.len (c : Cnt) (n : Nat) : Prop := c.named.length = n ∧ c.subs.length = n ∧ c.home.length = n
theorem bump_len (l : List Int) (k : Int) : (bump l k).length = l.length := by unfold bump; rw [List.length_set]
theorem stepE_len {ns : List NodeS} {i : Int} {c : Cnt} {e : EntryS} {n : Nat} (h : c.len n) : (stepE ns i c e).len n := by
  refine ⟨?_, ?_, ?_⟩
  · show (bump c.named e.node).length = n
    rw [bump_len]; exact h.1
  · show (if dirS ns e.node = true then bump c.subs i else c.subs).length = n
    split
    · rw [bump_len]; exact h.2.1
    · exact h.2.1
  · show (c.home.set e.node.toNat i).length = n
    rw [List.length_set]; exact h.2.2
theorem cntE_drop {ns : List NodeS} {i : Int} {l : List EntryS} {j : Nat} {e : EntryS} {c : Cnt} (h : l[j]? = some e) : cntE ns i c (l.drop j) = cntE ns i (stepE ns i c e) (l.drop (j + 1)) := by
  obtain ⟨h1, rfl⟩ := List.getElem?_eq_some_iff.1 h
  rw [List.drop_eq_getElem_cons h1, cntE]
/-- What is bad about a node, ahead of what is counted. -/
def nodeBad (ns : List NodeS) (tg : Int) (g : List Int) (x : NodeS) : Bool :=
  decide (x.gen ≥ tg) || (isGen g x.gen || (decide (x.mode > 4095) || (!decide (x.rn < 1000000000) || (!decide (x.wn < 1000000000) || (!decide (x.tn < 1000000000) || (x.kind == 2 && !entriesS ns x))))))
def pass1 (ns : List NodeS) (tg : Int) : List NodeS → Int → List Int → Cnt → Option Cnt
  | [], _, _, c => some c
  | x :: r, i, g, c => if (x.kind != 0) = true then if nodeBad ns tg g x = true then none else pass1 ns tg r (i + 1) (g ++ [x.gen]) (cntE ns i c x.ents) else pass1 ns tg r (i + 1) g c
def at0 (l : List Int) (i : Int) : Int := (l[i.toNat]?).getD 0
def nodeBad2 (ns : List NodeS) (c : Cnt) (i : Int) (x : NodeS) : Bool :=
  if (x.kind == 2) = true then x.links != IntKind.wrap .i64 (2 + at0 c.subs i) || (decide (i > 1) && (at0 c.named i != 1 || (at0 c.home i != x.parent || !withinS ns 1 (ns.length + 1) i)))
  else x.links != at0 c.named i || (decide (at0 c.named i < 1) || decide (at0 c.named i > 200))
def pass2 (ns : List NodeS) (c : Cnt) : List NodeS → Int → Bool
  | [], _ => true
  | x :: r, i => if (x.kind != 0) = true then if nodeBad2 ns c i x = true then false else pass2 ns c r (i + 1) else pass2 ns c r (i + 1)
def cnt0 (n : Nat) : Cnt := ⟨List.replicate n 0, List.replicate n 0, List.replicate n 0⟩
def preBad (ns : List NodeS) : Bool := decide ((ns.length : Int) < 2) || (decide ((ns.length : Int) > 1025) || ((kindS ns 0 != 0) || (!dirS ns 1 || ((parentS ns 1 != 1) || !thereS ns (ns.length - 1)))))
/-- May a tree be? -/
def checkS (ns : List NodeS) (tg : Int) : Bool := !preBad ns && (!anyBad ns && (match pass1 ns tg ns 0 [] (cnt0 ns.length) with
  | some c => pass2 ns c ns 0
  | none => false))
theorem pass1_drop {ns : List NodeS} {tg : Int} {l : List NodeS} {i : Int} {x : NodeS} {g : List Int} {c : Cnt} (h0 : 0 ≤ i) (h : l[i.toNat]? = some x) : pass1 ns tg (l.drop i.toNat) i g c = if (x.kind != 0) = true then if nodeBad ns tg g x = true then none else pass1 ns tg (l.drop (i + 1).toNat) (i + 1) (g ++ [x.gen]) (cntE ns i c x.ents) else pass1 ns tg (l.drop (i + 1).toNat) (i + 1) g c := by
  obtain ⟨h1, rfl⟩ := List.getElem?_eq_some_iff.1 h
  rw [List.drop_eq_getElem_cons h1, pass1, show (i + 1).toNat = i.toNat + 1 by omega]
theorem pass2_drop {ns : List NodeS} {l : List NodeS} {i : Int} {x : NodeS} {c : Cnt} (h0 : 0 ≤ i) (h : l[i.toNat]? = some x) : pass2 ns c (l.drop i.toNat) i = if (x.kind != 0) = true then if nodeBad2 ns c i x = true then false else pass2 ns c (l.drop (i + 1).toNat) (i + 1) else pass2 ns c (l.drop (i + 1).toNat) (i + 1) := by
  obtain ⟨h1, rfl⟩ := List.getElem?_eq_some_iff.1 h
  rw [List.drop_eq_getElem_cons h1, pass2, show (i + 1).toNat = i.toNat + 1 by omega]
theorem only_list {x : NodeS} (h : onlyS x = true) (hk : (x.kind == 2) = false) : x.ents = [] := by
  have hl : listO x = true := by
    unfold onlyS at h
    cases h0 : (x.kind == 0) <;> cases h1 : (x.kind == 1) <;> cases h5 : (x.kind == 5) <;> simp_all
  unfold listO at hl
  rw [Bool.and_eq_true] at hl
  have := hl.1
  rw [beq_iff_eq] at this
  exact List.length_eq_zero_iff.1 (by omega)
theorem ents_there {ns : List NodeS} {nx : Int} : ∀ (l prev : List EntryS) (la : Int), entsBad ns nx prev la l = false → ∀ e ∈ l, thereS ns e.node = true
  | [], _, _, _, e, he => by cases he
  | a :: r, prev, la, h, e, he => by
    rw [entsBad, Bool.or_eq_false_iff] at h
    rcases List.mem_cons.1 he with rfl | he
    · have h1 := h.1
      unfold entBad at h1
      simp only [Bool.or_eq_false_iff, Bool.not_eq_false'] at h1
      exact h1.2.2.2.2.2.2.2
    · exact ents_there r _ _ h.2 e he
theorem entries_there {ns : List NodeS} {d : NodeS} (h : entriesS ns d = true) : ∀ e ∈ d.ents, thereS ns e.node = true := by
  unfold entriesS at h
  rw [Bool.and_eq_true, Bool.not_eq_true'] at h
  exact ents_there d.ents [] 2 (by simpa using h.2)
theorem gensA_app (g : List Int) (n : Int) : gensA (g ++ [n]) = gensA g ++ [(.int .u32 n, .int .i64 1)] := by simp [gensA]
theorem ints_put {l : List Int} {k : Nat} {v : Int} (h : k < l.length) : splice (numsA .i64 l) (0 + k * 1) [.int .i64 v] = numsA .i64 (l.set k v) := by
  have := splice_rows (f := fun n : Int => [AV.int .i64 n]) (z := 1) (fun _ => rfl) (l := l) (i := k) (x := l[k]) (x' := v) (k := 0) (vs := [.int .i64 v]) (List.getElem?_eq_getElem h) (Nat.le_refl 1) rfl
  rw [nums_flat, nums_flat, Nat.add_zero] at this
  rw [Nat.zero_add]
  exact this
theorem ints_get {l : List Int} {k : Nat} (h : k < l.length) : (numsA .i64 l)[0 + k * 1]? = some (.int .i64 ((l[k]?).getD 0)) := by
  rw [Nat.zero_add, Nat.mul_one, numsA, List.getElem?_map, List.getElem?_eq_getElem h]
  rfl
theorem nodeA_one {x : NodeS} (hx : x.ok) : oneL (nodeA x) = true := by
  obtain ⟨kd, ge, mo, us, ng, li, xrs, xrn, xws, xwn, ts, tn, da, by_, vf, ta, ls, es, pa, nx⟩ := x
  simp only [NodeS.ok, rowOk, entsOk] at hx
  obtain ⟨hd, hl⟩ := hx
  rcases hd with ⟨rfl, rfl⟩ | ⟨dt, rfl⟩ <;> rcases hl with ⟨rfl, rfl⟩ | ⟨lt, rfl⟩ <;> rfl
theorem nodeA_top0 {x : NodeS} (hx : x.ok) : topL (nodeA x) = 0 := by
  obtain ⟨kd, ge, mo, us, ng, li, xrs, xrn, xws, xwn, ts, tn, da, by_, vf, ta, ls, es, pa, nx⟩ := x
  simp only [NodeS.ok, rowOk, entsOk] at hx
  obtain ⟨hd, hl⟩ := hx
  rcases hd with ⟨rfl, rfl⟩ | ⟨dt, rfl⟩ <;> rcases hl with ⟨rfl, rfl⟩ | ⟨lt, rfl⟩ <;> rfl
theorem ints_len (l : List Int) : (numsA .i64 l).length = l.length := by simp [numsA]
theorem rep_ints (n : Nat) : repCells n [.int .i64 0] = numsA .i64 (List.replicate n 0) := by
  unfold numsA
  rw [List.map_replicate]
  rfl
end Go.Proofs.Ytnkeijebkpjdgaa.Ab
/- Over the engine: nodes.Check, walked. -/
namespace Go.Proofs.Ytnkeijebkpjdgaa.Ab
open Go Go.RowKit
set_option maxRecDepth 100000
theorem living_c (m : Nat) (from_ : FuncId) (h : H) (ns : List NodeS) (t : Bool) (tg : Int) : evCall TE (m + 1) from_ (.fn 25 [] []) [.agg [.sl (nodesA ns) ns.length t, .int .u32 tg]] h = some (.ret (.fn 44 [] [.vref [.sl (nodesA ns) ns.length t, .int .u32 tg] 0]), h) := by
  refine call_clean (fn := Try.f25) rfl Try.func25 rfl rfl rfl rfl rfl (Nat.le_of_ble_eq_true rfl) ?_
  conv => whnf
  rfl
set_option maxHeartbeats 80000000 in
theorem check_c (m : Nat) (from_ : FuncId) (h : H) (ns : List NodeS) (t : Bool) (tg : Int) (hok : ∀ x ∈ ns, x.ok ∧ x.few) (hl : ns.length ≤ 140737488351232) : evCall TE (m + 12) from_ (.fn 7 [] []) [.agg [.sl (nodesA ns) ns.length t, .int .u32 tg]] h = some (.ret (.bool (checkS ns tg)), h) := by
  have c1 : ∀ (f : FuncId) (h : H), (evAll TE (m + 11)).1 f (.fn 20 [] []) [.agg [.sl (nodesA ns) ns.length t, .int .u32 tg], .int .i64 1, .int .u32 2] h = some (.ret (.bool (dirS ns 1)), h) := fun f h => is_c (m + 9) f h ns t tg 1 2
  have hwn : 2 ≤ ns.length → IntKind.wrap .i64 ((ns.length : Int) - 1) = ns.length - 1 := fun h => wrap64 (by omega) (by omega)
  have c2 : 2 ≤ ns.length → ∀ (f : FuncId) (h : H), (evAll TE (m + 11)).1 f (.fn 21 [] []) [.agg [.sl (nodesA ns) ns.length t, .int .u32 tg], .int .i64 (IntKind.wrap .i64 ((ns.length : Int) - 1))] h = some (.ret (.bool (thereS ns (ns.length - 1))), h) := fun h2 f h => by
    rw [hwn h2]
    exact there_c (m + 10) f h _ ns (.inr ⟨t, rfl⟩) tg _
  have c3 : ∀ (f : FuncId) (h : H), (evAll TE (m + 11)).1 f (.fn 22 [] []) [.sl (nodesA ns) ns.length t, .fn 23 [] []] h = some (.ret (.bool (anyBad ns)), h) := fun f h => contains_bad (m + 3) f h ns t (fun x hx => ⟨(hok x hx).1, (hok x hx).2.target⟩) hl
  obtain ⟨r, hr⟩ : ∃ r, r = checkS ns tg := ⟨_, rfl⟩
  rw [← hr]
  unfold checkS preBad at hr
  cases p1 : decide ((ns.length : Int) < 2) with
  | true =>
    rw [p1] at hr
    refine call_clean (fn := Try.f7) rfl Try.func7 rfl rfl rfl rfl rfl (Nat.le_of_ble_eq_true rfl) ?_
    conv => whnf
    ((with_reducible cases z0 : decide (↑ns.length < Int.ofNat 2)) <;> try exact Bool.noConfusion (Eq.trans (Eq.symm z0) p1))
    conv => whnf
    (rw [hr]; rfl)
  | false =>
    have h2 : 2 ≤ ns.length := by have := of_decide_eq_false p1; omega
    have c2 := c2 h2
    clear hwn
    obtain ⟨x0, hx0⟩ : ∃ x, ns[(0 : Int).toNat]? = some x := ⟨_, List.getElem?_eq_getElem (by show 0 < _; omega)⟩
    obtain ⟨x1, hx1⟩ : ∃ x, ns[(1 : Int).toNat]? = some x := ⟨_, List.getElem?_eq_getElem (by show 1 < _; omega)⟩
    have hk0 : kindS ns 0 = x0.kind := by unfold kindS; rw [hx0]
    have hp1 : parentS ns 1 = x1.parent := by unfold parentS; rw [hx1]
    rw [hk0, hp1, p1, Bool.false_or] at hr
    have hb0 : (0 : Int) < ns.length := by omega
    have hb1 : (1 : Int) < ns.length := by omega
    generalize dirS ns 1 = q1 at c1 hr
    generalize thereS ns (ns.length - 1) = q2 at c2 hr
    obtain ⟨q3, hq3⟩ : ∃ q, anyBad ns = q := ⟨_, rfl⟩
    rw [hq3] at c3 hr
    cases b1 : decide ((ns.length : Int) > 1025) with
    | true =>
      rw [b1] at hr
      refine call_clean (fn := Try.f7) rfl Try.func7 rfl rfl rfl rfl rfl (Nat.le_of_ble_eq_true rfl) ?_
      conv => whnf
      ((with_reducible cases z0 : decide (↑ns.length < Int.ofNat 2)) <;> try exact Bool.noConfusion (Eq.trans (Eq.symm z0) p1))
      conv => whnf
      ((with_reducible cases z1 : decide (↑ns.length > Int.ofNat 1025)) <;> try exact Bool.noConfusion (Eq.trans (Eq.symm z1) b1))
      conv => whnf
      (rw [hr]; rfl)
    | false =>
      rw [b1] at hr
      cases b2 : (x0.kind != 0) with
      | true =>
        rw [b2] at hr
        refine call_clean (fn := Try.f7) rfl Try.func7 rfl rfl rfl rfl rfl (Nat.le_of_ble_eq_true rfl) ?_
        conv => whnf
        ((with_reducible cases z0 : decide (↑ns.length < Int.ofNat 2)) <;> try exact Bool.noConfusion (Eq.trans (Eq.symm z0) p1))
        conv => whnf
        ((with_reducible cases z1 : decide (↑ns.length > Int.ofNat 1025)) <;> try exact Bool.noConfusion (Eq.trans (Eq.symm z1) b1))
        conv => whnf
        (refine runK_ret (ev_indexSl (sz := 25) rfl rfl rfl rfl (Int.le_refl 0) hb0) ?_)
        conv => whnf
        (refine runK_ret (ev_loadV (z := 1) rfl rfl rfl ((nodesA_cell hx0 0 (by decide)).trans rfl)) ?_)
        conv => whnf
        ((with_reducible cases z2 : x0.kind != Int.ofNat 0) <;> try exact Bool.noConfusion (Eq.trans (Eq.symm z2) b2))
        conv => whnf
        (rw [hr]; rfl)
      | false =>
        rw [b2] at hr
        cases q1 with
        | false =>
          refine call_clean (fn := Try.f7) rfl Try.func7 rfl rfl rfl rfl rfl (Nat.le_of_ble_eq_true rfl) ?_
          conv => whnf
          ((with_reducible cases z0 : decide (↑ns.length < Int.ofNat 2)) <;> try exact Bool.noConfusion (Eq.trans (Eq.symm z0) p1))
          conv => whnf
          ((with_reducible cases z1 : decide (↑ns.length > Int.ofNat 1025)) <;> try exact Bool.noConfusion (Eq.trans (Eq.symm z1) b1))
          conv => whnf
          (refine runK_ret (ev_indexSl (sz := 25) rfl rfl rfl rfl (Int.le_refl 0) hb0) ?_)
          conv => whnf
          (refine runK_ret (ev_loadV (z := 1) rfl rfl rfl ((nodesA_cell hx0 0 (by decide)).trans rfl)) ?_)
          conv => whnf
          ((with_reducible cases z2 : x0.kind != Int.ofNat 0) <;> try exact Bool.noConfusion (Eq.trans (Eq.symm z2) b2))
          conv => whnf
          with_reducible refine ⟨_, _, c1 _ _, ?_⟩
          conv => whnf
          (rw [hr]; rfl)
        | true =>
          cases b4 : (x1.parent != 1) with
          | true =>
            rw [b4] at hr
            refine call_clean (fn := Try.f7) rfl Try.func7 rfl rfl rfl rfl rfl (Nat.le_of_ble_eq_true rfl) ?_
            conv => whnf
            ((with_reducible cases z0 : decide (↑ns.length < Int.ofNat 2)) <;> try exact Bool.noConfusion (Eq.trans (Eq.symm z0) p1))
            conv => whnf
            ((with_reducible cases z1 : decide (↑ns.length > Int.ofNat 1025)) <;> try exact Bool.noConfusion (Eq.trans (Eq.symm z1) b1))
            conv => whnf
            (refine runK_ret (ev_indexSl (sz := 25) rfl rfl rfl rfl (Int.le_refl 0) hb0) ?_)
            conv => whnf
            (refine runK_ret (ev_loadV (z := 1) rfl rfl rfl ((nodesA_cell hx0 0 (by decide)).trans rfl)) ?_)
            conv => whnf
            ((with_reducible cases z2 : x0.kind != Int.ofNat 0) <;> try exact Bool.noConfusion (Eq.trans (Eq.symm z2) b2))
            conv => whnf
            with_reducible refine ⟨_, _, c1 _ _, ?_⟩
            conv => whnf
            (refine runK_ret (ev_indexSl (sz := 25) rfl rfl rfl rfl (by decide) hb1) ?_)
            conv => whnf
            (refine runK_ret (ev_loadV (z := 1) rfl rfl rfl ((nodesA_cell hx1 23 (by decide)).trans rfl)) ?_)
            conv => whnf
            ((with_reducible cases z3 : x1.parent != Int.ofNat 1) <;> try exact Bool.noConfusion (Eq.trans (Eq.symm z3) b4))
            conv => whnf
            (rw [hr]; rfl)
          | false =>
            rw [b4] at hr
            cases q2 with
            | false =>
              refine call_clean (fn := Try.f7) rfl Try.func7 rfl rfl rfl rfl rfl (Nat.le_of_ble_eq_true rfl) ?_
              conv => whnf
              ((with_reducible cases z0 : decide (↑ns.length < Int.ofNat 2)) <;> try exact Bool.noConfusion (Eq.trans (Eq.symm z0) p1))
              conv => whnf
              ((with_reducible cases z1 : decide (↑ns.length > Int.ofNat 1025)) <;> try exact Bool.noConfusion (Eq.trans (Eq.symm z1) b1))
              conv => whnf
              (refine runK_ret (ev_indexSl (sz := 25) rfl rfl rfl rfl (Int.le_refl 0) hb0) ?_)
              conv => whnf
              (refine runK_ret (ev_loadV (z := 1) rfl rfl rfl ((nodesA_cell hx0 0 (by decide)).trans rfl)) ?_)
              conv => whnf
              ((with_reducible cases z2 : x0.kind != Int.ofNat 0) <;> try exact Bool.noConfusion (Eq.trans (Eq.symm z2) b2))
              conv => whnf
              with_reducible refine ⟨_, _, c1 _ _, ?_⟩
              conv => whnf
              (refine runK_ret (ev_indexSl (sz := 25) rfl rfl rfl rfl (by decide) hb1) ?_)
              conv => whnf
              (refine runK_ret (ev_loadV (z := 1) rfl rfl rfl ((nodesA_cell hx1 23 (by decide)).trans rfl)) ?_)
              conv => whnf
              ((with_reducible cases z3 : x1.parent != Int.ofNat 1) <;> try exact Bool.noConfusion (Eq.trans (Eq.symm z3) b4))
              conv => whnf
              with_reducible refine ⟨_, _, c2 _ _, ?_⟩
              conv => whnf
              (rw [hr]; rfl)
            | true =>
              cases q3 with
              | true =>
                refine call_clean (fn := Try.f7) rfl Try.func7 rfl rfl rfl rfl rfl (Nat.le_of_ble_eq_true rfl) ?_
                conv => whnf
                ((with_reducible cases z0 : decide (↑ns.length < Int.ofNat 2)) <;> try exact Bool.noConfusion (Eq.trans (Eq.symm z0) p1))
                conv => whnf
                ((with_reducible cases z1 : decide (↑ns.length > Int.ofNat 1025)) <;> try exact Bool.noConfusion (Eq.trans (Eq.symm z1) b1))
                conv => whnf
                (refine runK_ret (ev_indexSl (sz := 25) rfl rfl rfl rfl (Int.le_refl 0) hb0) ?_)
                conv => whnf
                (refine runK_ret (ev_loadV (z := 1) rfl rfl rfl ((nodesA_cell hx0 0 (by decide)).trans rfl)) ?_)
                conv => whnf
                ((with_reducible cases z2 : x0.kind != Int.ofNat 0) <;> try exact Bool.noConfusion (Eq.trans (Eq.symm z2) b2))
                conv => whnf
                with_reducible refine ⟨_, _, c1 _ _, ?_⟩
                conv => whnf
                (refine runK_ret (ev_indexSl (sz := 25) rfl rfl rfl rfl (by decide) hb1) ?_)
                conv => whnf
                (refine runK_ret (ev_loadV (z := 1) rfl rfl rfl ((nodesA_cell hx1 23 (by decide)).trans rfl)) ?_)
                conv => whnf
                ((with_reducible cases z3 : x1.parent != Int.ofNat 1) <;> try exact Bool.noConfusion (Eq.trans (Eq.symm z3) b4))
                conv => whnf
                with_reducible refine ⟨_, _, c2 _ _, ?_⟩
                conv => whnf
                with_reducible refine ⟨_, _, c3 _ _, ?_⟩
                conv => whnf
                (rw [hr]; rfl)
              | false =>
                have hle : ns.length ≤ 1025 := by have := of_decide_eq_false b1; omega
                have c4 : ∀ (f : FuncId) (h : H), (evAll TE (m + 11)).1 f (.fn 25 [] []) [.agg [.sl (nodesA ns) ns.length t, .int .u32 tg]] h = some (.ret (.fn 44 [] [.vref [.sl (nodesA ns) ns.length t, .int .u32 tg] 0]), h) := fun f h => living_c (m + 10) f h ns t tg
                refine call_clean (fn := Try.f7) rfl Try.func7 rfl rfl rfl rfl rfl (Nat.le_of_ble_eq_true rfl) ?_
                conv => whnf
                ((with_reducible cases z0 : decide (↑ns.length < Int.ofNat 2)) <;> try exact Bool.noConfusion (Eq.trans (Eq.symm z0) p1))
                conv => whnf
                ((with_reducible cases z1 : decide (↑ns.length > Int.ofNat 1025)) <;> try exact Bool.noConfusion (Eq.trans (Eq.symm z1) b1))
                conv => whnf
                (refine runK_ret (ev_indexSl (sz := 25) rfl rfl rfl rfl (Int.le_refl 0) hb0) ?_)
                conv => whnf
                (refine runK_ret (ev_loadV (z := 1) rfl rfl rfl ((nodesA_cell hx0 0 (by decide)).trans rfl)) ?_)
                conv => whnf
                ((with_reducible cases z2 : x0.kind != Int.ofNat 0) <;> try exact Bool.noConfusion (Eq.trans (Eq.symm z2) b2))
                conv => whnf
                with_reducible refine ⟨_, _, c1 _ _, ?_⟩
                conv => whnf
                (refine runK_ret (ev_indexSl (sz := 25) rfl rfl rfl rfl (by decide) hb1) ?_)
                conv => whnf
                (refine runK_ret (ev_loadV (z := 1) rfl rfl rfl ((nodesA_cell hx1 23 (by decide)).trans rfl)) ?_)
                conv => whnf
                ((with_reducible cases z3 : x1.parent != Int.ofNat 1) <;> try exact Bool.noConfusion (Eq.trans (Eq.symm z3) b4))
                conv => whnf
                with_reducible refine ⟨_, _, c2 _ _, ?_⟩
                conv => whnf
                with_reducible refine ⟨_, _, c3 _ _, ?_⟩
                conv => whnf
                (refine runK_ret (ev_makeN (sz := 1) (by_ := 8) rfl rfl rfl rfl rfl rfl (by omega) (by omega) rfl (by decide) rfl (rep_ints _)) ?_)
                conv => whnf
                (refine runK_ret (ev_makeN (sz := 1) (by_ := 8) rfl rfl rfl rfl rfl rfl (by omega) (by omega) rfl (by decide) rfl (rep_ints _)) ?_)
                conv => whnf
                (refine runK_ret (ev_makeN (sz := 1) (by_ := 8) rfl rfl rfl rfl rfl rfl (by omega) (by omega) rfl (by decide) rfl (rep_ints _)) ?_)
                conv => whnf
                (refine ⟨by kernel_rfl, ?_⟩)
                conv => whnf
                with_reducible refine ⟨_, _, c4 _ _, ?_⟩
                conv => whnf
                (refine range_K ?_)
                conv => whnf
                (refine call_inline (fn := Try.f44) rfl Try.func44 rfl rfl ?_)
                conv => whnf
                refine ⟨ns.length + 1, by show ns.length + 1 ≤ 4611686018427387904; omega, ?_⟩
                refine rounds_at (fun s (a : Int × List Int × Cnt) => ⟨RG.of 24 [(8, .int .i64 a.1), (7, .int .i64 ns.length), (6, .sl (nodesA ns) ns.length t), (0, .yc 17)], ⟨(((s.h.bs.set 4 (.cells (numsA .i64 a.2.2.named) ⟨true, 1, false, true⟩)).set 6 (.cells (numsA .i64 a.2.2.subs) ⟨true, 1, false, true⟩)).set 8 (.cells (numsA .i64 a.2.2.home) ⟨true, 1, false, true⟩)).set 2 (.map (gensA a.2.1)), s.h.esc⟩⟩) (fun a => 0 ≤ a.1 ∧ a.1 ≤ ns.length ∧ a.2.2.len ns.length ∧ r = (match pass1 ns tg (ns.drop a.1.toNat) a.1 a.2.1 a.2.2 with
                  | some c => pass2 ns c ns 0
                  | none => false)) (fun a => (ns.length - a.1).toNat) _ (0, [], cnt0 ns.length) ⟨by simp only; omega, by simp only; omega, ⟨List.length_replicate .., List.length_replicate .., List.length_replicate ..⟩, by rw [hr]; rfl⟩ (by simp only; omega) (by kernel_rfl) ?_
                intro a m' hI ih
                obtain ⟨i, g, c⟩ := a
                dsimp only at hI ih ⊢
                obtain ⟨hI0, hI1, hI3, hI2⟩ := hI
                clear hr
                conv => whnf
                cases h1 : decide (i < (ns.length : Int)) with
                | false =>
                  have h1 := of_decide_eq_false h1
                  rw [List.drop_eq_nil_of_le (by omega), pass1] at hI2
                  dsimp only at hI2
                  clear ih
                  conv => whnf
                  with_reducible refine ⟨_, _, c4 _ _, ?_⟩
                  conv => whnf
                  (refine range_K ?_)
                  conv => whnf
                  (refine call_inline (fn := Try.f44) rfl Try.func44 rfl rfl ?_)
                  conv => whnf
                  refine ⟨ns.length + 1, by show ns.length + 1 ≤ 4611686018427387904; omega, ?_⟩
                  refine rounds_at (fun s (a : Int) => ⟨RG.of 24 [(8, .int .i64 a), (7, .int .i64 ns.length), (6, .sl (nodesA ns) ns.length t), (0, .yc 17)], ⟨s.h.bs, s.h.esc⟩⟩) (fun a => 0 ≤ a ∧ a ≤ ns.length ∧ r = pass2 ns c (ns.drop a.toNat) a) (fun a => (ns.length - a).toNat) _ 0 ⟨by omega, by omega, hI2⟩ (by omega) (by kernel_rfl) ?_
                  clear hI2 h1 hI0 hI1
                  intro i2 m2 hK ih3
                  obtain ⟨hK0, hK1, hK2⟩ := hK
                  conv => whnf
                  cases h4 : decide (i2 < (ns.length : Int)) with
                  | false =>
                    have h4 := of_decide_eq_false h4
                    rw [List.drop_eq_nil_of_le (by omega), pass2] at hK2
                    clear ih3
                    conv => whnf
                    (rw [hK2])
                  | true =>
                    have h4 := of_decide_eq_true h4
                    have hin : i2.toNat < ns.length := by omega
                    obtain ⟨x, hx⟩ : ∃ x, ns[i2.toNat]? = some x := ⟨_, List.getElem?_eq_getElem hin⟩
                    have hcx : i2.toNat * 25 + 25 ≤ (nodesA ns).length := by rw [nodesA_len]; omega
                    have hdx := nodesA_node hx
                    have hw : IntKind.wrap .i64 (i2 + 1) = i2 + 1 := wrap64 (by omega) (by omega)
                    have hmu : (ns.length - IntKind.wrap .i64 (i2 + 1)).toNat < (ns.length - i2).toNat := by rw [hw]; omega
                    have hwa : 0 ≤ IntKind.wrap .i64 (i2 + 1) ∧ IntKind.wrap .i64 (i2 + 1) ≤ ns.length := by rw [hw]; omega
                    rw [pass2_drop hK0 hx, ← hw] at hK2
                    have cW : ∀ (f : FuncId) (h : H), (evAll TE (m + 9)).1 f (.fn 28 [] []) [.agg [.sl (nodesA ns) ns.length t, .int .u32 tg], .int .i64 i2, .int .i64 1] h = some (.ret (.bool (withinS ns 1 (ns.length + 1) i2)), h) := fun f h => within_c (m + 4) f h ns t tg i2 1 hl
                    have hxo := (hok x (List.mem_of_getElem? hx)).1
                    have honeL : oneL (nodeA x) = true := nodeA_one hxo
                    have htop : topL (nodeA x) = 0 := nodeA_top0 hxo
                    unfold nodeA at honeL htop
                    obtain ⟨n1, n2, n3⟩ := hI3
                    have hN : i2.toNat < c.named.length := by omega
                    have hS : i2.toNat < c.subs.length := by omega
                    have hH : i2.toNat < c.home.length := by omega
                    obtain ⟨bd, hbd⟩ : ∃ b, b = nodeBad2 ns c i2 x := ⟨_, rfl⟩
                    rw [← hbd] at hK2
                    unfold nodeBad2 at0 at hbd
                    generalize withinS ns 1 (ns.length + 1) i2 = wi at cW hbd
                    obtain ⟨kd, ge, mo, us, ng, li, xrs, xrn, xws, xwn, ts, tn, da, by_, vf, ta, ls, es, pa, nx⟩ := x
                    dsimp only at hK2 hbd honeL htop
                    cases qk : (kd != 0) with
                    | false =>
                      rw [qk, if_neg (fun h => Bool.noConfusion h)] at hK2
                      conv => whnf
                      (refine runK_ret (ev_indexSl (sz := 25) rfl rfl rfl rfl hK0 h4) ?_)
                      conv => whnf
                      (refine runK_ret (ev_loadVA (z := 25) rfl rfl rfl hcx hdx) ?_)
                      conv => whnf
                      (refine runK_store (z := 25) rfl rfl rfl rfl honeL rfl rfl rfl (Nat.le_of_ble_eq_true rfl) (.inl rfl) ?_)
                      conv => whnf
                      (refine listK_of (if_pos (Nat.le_trans (Nat.le_of_eq htop) (Nat.zero_le _))) ?_)
                      conv => whnf
                      ((with_reducible cases z0 : kd != Int.ofNat 0) <;> try exact Bool.noConfusion (Eq.trans (Eq.symm z0) qk))
                      conv => whnf
                      (exact ih3 (IntKind.wrap .i64 (i2 + 1)) _ ⟨hwa.1, hwa.2, hK2⟩ hmu (by kernel_rfl))
                    | true =>
                      rw [qk, if_pos rfl] at hK2
                      have hfa : bd = true → r = false := fun hb => by rw [hK2, hb]; rfl
                      have hst : bd = false → 0 ≤ IntKind.wrap .i64 (i2 + 1) ∧ IntKind.wrap .i64 (i2 + 1) ≤ ns.length ∧ r = pass2 ns c (ns.drop (IntKind.wrap .i64 (i2 + 1)).toNat) (IntKind.wrap .i64 (i2 + 1)) := fun hb => by
                        rw [hb, if_neg (fun h => Bool.noConfusion h)] at hK2
                        exact ⟨hwa.1, hwa.2, hK2⟩
                      conv => whnf
                      (refine runK_ret (ev_indexSl (sz := 25) rfl rfl rfl rfl hK0 h4) ?_)
                      conv => whnf
                      (refine runK_ret (ev_loadVA (z := 25) rfl rfl rfl hcx hdx) ?_)
                      conv => whnf
                      (refine runK_store (z := 25) rfl rfl rfl rfl honeL rfl rfl rfl (Nat.le_of_ble_eq_true rfl) (.inl rfl) ?_)
                      conv => whnf
                      (refine listK_of (if_pos (Nat.le_trans (Nat.le_of_eq htop) (Nat.zero_le _))) ?_)
                      conv => whnf
                      ((with_reducible cases z0 : kd != Int.ofNat 0) <;> try exact Bool.noConfusion (Eq.trans (Eq.symm z0) qk))
                      conv => whnf
                      (refine yield_K ?_)
                      conv => whnf
                      (refine runK_store (z := 25) rfl rfl rfl rfl honeL rfl rfl rfl (Nat.le_of_ble_eq_true rfl) (.inl rfl) ?_)
                      conv => whnf
                      (refine listK_of (if_pos (Nat.le_trans (Nat.le_of_eq htop) (Nat.zero_le _))) ?_)
                      conv => whnf
                      (refine runK_ret (ev_indexRsl (sz := 1) rfl rfl rfl rfl hK0 h4) ?_)
                      conv => whnf
                      (refine runK_if rfl (runK_cell rfl (ints_get (l := c.named) (k := i2.toNat) hN) (runK_ret rfl ?_)))
                      conv => whnf
                      with_reducible cases z1 : li != c.named[i2.toNat]?.getD (Int.ofNat 0)
                      · conv => whnf
                        (refine runK_ret (ev_indexRsl (sz := 1) rfl rfl rfl rfl hK0 h4) ?_)
                        conv => whnf
                        (refine runK_if rfl (runK_cell rfl (ints_get (l := c.named) (k := i2.toNat) hN) (runK_ret rfl ?_)))
                        conv => whnf
                        with_reducible cases z2 : decide (c.named[i2.toNat]?.getD (Int.ofNat 0) < Int.ofNat 1)
                        · conv => whnf
                          (refine runK_ret (ev_indexRsl (sz := 1) rfl rfl rfl rfl hK0 h4) ?_)
                          conv => whnf
                          (refine runK_if rfl (runK_cell rfl (ints_get (l := c.named) (k := i2.toNat) hN) (runK_ret rfl ?_)))
                          conv => whnf
                          (refine ⟨by kernel_rfl, ?_⟩)
                          conv => whnf
                          with_reducible cases z3 : kd == Int.ofNat 2
                          · conv => whnf
                            with_reducible cases z4 : decide (c.named[i2.toNat]?.getD (Int.ofNat 0) > Int.ofNat 200)
                            · conv => whnf
                              (exact ih3 (IntKind.wrap .i64 (i2 + 1)) _ (hst (by clear ih3; rw [hbd]; simp_all <;> (intro hh; exfalso; omega))) hmu (by kernel_rfl))
                            · conv => whnf
                              (rw [hfa (by clear ih3; rw [hbd]; simp_all)])
                          · conv => whnf
                            (refine runK_ret (ev_indexRsl (sz := 1) rfl rfl rfl rfl hK0 h4) ?_)
                            conv => whnf
                            (refine runK_if rfl (runK_cell rfl (ints_get (l := c.subs) (k := i2.toNat) hS) (runK_ret rfl ?_)))
                            conv => whnf
                            with_reducible cases z5 : li != IntKind.i64.wrap (Int.ofNat 2 + c.subs[i2.toNat]?.getD (Int.ofNat 0))
                            · conv => whnf
                              with_reducible cases z6 : decide (i2 > Int.ofNat 1)
                              · conv => whnf
                                (refine ⟨by kernel_rfl, ?_⟩)
                                conv => whnf
                                (exact ih3 (IntKind.wrap .i64 (i2 + 1)) _ (hst (by clear ih3; rw [hbd]; simp_all <;> (intro hh; exfalso; omega))) hmu (by kernel_rfl))
                              · conv => whnf
                                (refine runK_ret (ev_indexRsl (sz := 1) rfl rfl rfl rfl hK0 h4) ?_)
                                conv => whnf
                                (refine runK_if rfl (runK_cell rfl (ints_get (l := c.named) (k := i2.toNat) hN) (runK_ret rfl ?_)))
                                conv => whnf
                                with_reducible cases z7 : c.named[i2.toNat]?.getD (Int.ofNat 0) != Int.ofNat 1
                                · conv => whnf
                                  (refine runK_ret (ev_indexRsl (sz := 1) rfl rfl rfl rfl hK0 h4) ?_)
                                  conv => whnf
                                  (refine runK_if rfl (runK_cell rfl (ints_get (l := c.home) (k := i2.toNat) hH) (runK_ret rfl ?_)))
                                  conv => whnf
                                  with_reducible cases z8 : c.home[i2.toNat]?.getD (Int.ofNat 0) != pa
                                  · conv => whnf
                                    with_reducible refine ⟨_, _, cW _ _, ?_⟩
                                    conv => whnf
                                    (refine ⟨by kernel_rfl, ?_⟩)
                                    conv => whnf
                                    (refine ⟨by kernel_rfl, ?_⟩)
                                    conv => whnf
                                    cases wi
                                    · conv => whnf
                                      (rw [hfa (by clear ih3; rw [hbd]; simp_all)])
                                    · conv => whnf
                                      (exact ih3 (IntKind.wrap .i64 (i2 + 1)) _ (hst (by clear ih3; rw [hbd]; simp_all <;> (intro hh; exfalso; omega))) hmu (by kernel_rfl))
                                  · conv => whnf
                                    (refine ⟨by kernel_rfl, ?_⟩)
                                    conv => whnf
                                    (rw [hfa (by clear ih3; rw [hbd]; simp_all)])
                                · conv => whnf
                                  (refine ⟨by kernel_rfl, ?_⟩)
                                  conv => whnf
                                  (rw [hfa (by clear ih3; rw [hbd]; simp_all)])
                            · conv => whnf
                              (refine ⟨by kernel_rfl, ?_⟩)
                              conv => whnf
                              (rw [hfa (by clear ih3; rw [hbd]; simp_all)])
                        · conv => whnf
                          (refine ⟨by kernel_rfl, ?_⟩)
                          conv => whnf
                          with_reducible cases z10 : kd == Int.ofNat 2
                          · conv => whnf
                            (rw [hfa (by clear ih3; rw [hbd]; simp_all)])
                          · conv => whnf
                            (refine runK_ret (ev_indexRsl (sz := 1) rfl rfl rfl rfl hK0 h4) ?_)
                            conv => whnf
                            (refine runK_if rfl (runK_cell rfl (ints_get (l := c.subs) (k := i2.toNat) hS) (runK_ret rfl ?_)))
                            conv => whnf
                            with_reducible cases z11 : li != IntKind.i64.wrap (Int.ofNat 2 + c.subs[i2.toNat]?.getD (Int.ofNat 0))
                            · conv => whnf
                              with_reducible cases z12 : decide (i2 > Int.ofNat 1)
                              · conv => whnf
                                (refine ⟨by kernel_rfl, ?_⟩)
                                conv => whnf
                                (exact ih3 (IntKind.wrap .i64 (i2 + 1)) _ (hst (by clear ih3; rw [hbd]; simp_all <;> (intro hh; exfalso; omega))) hmu (by kernel_rfl))
                              · conv => whnf
                                (refine runK_ret (ev_indexRsl (sz := 1) rfl rfl rfl rfl hK0 h4) ?_)
                                conv => whnf
                                (refine runK_if rfl (runK_cell rfl (ints_get (l := c.named) (k := i2.toNat) hN) (runK_ret rfl ?_)))
                                conv => whnf
                                with_reducible cases z13 : c.named[i2.toNat]?.getD (Int.ofNat 0) != Int.ofNat 1
                                · conv => whnf
                                  (refine runK_ret (ev_indexRsl (sz := 1) rfl rfl rfl rfl hK0 h4) ?_)
                                  conv => whnf
                                  (refine runK_if rfl (runK_cell rfl (ints_get (l := c.home) (k := i2.toNat) hH) (runK_ret rfl ?_)))
                                  conv => whnf
                                  with_reducible cases z14 : c.home[i2.toNat]?.getD (Int.ofNat 0) != pa
                                  · conv => whnf
                                    with_reducible refine ⟨_, _, cW _ _, ?_⟩
                                    conv => whnf
                                    (refine ⟨by kernel_rfl, ?_⟩)
                                    conv => whnf
                                    (refine ⟨by kernel_rfl, ?_⟩)
                                    conv => whnf
                                    cases wi
                                    · conv => whnf
                                      (rw [hfa (by clear ih3; rw [hbd]; simp_all)])
                                    · conv => whnf
                                      (exact ih3 (IntKind.wrap .i64 (i2 + 1)) _ (hst (by clear ih3; rw [hbd]; simp_all <;> (intro hh; exfalso; omega))) hmu (by kernel_rfl))
                                  · conv => whnf
                                    (refine ⟨by kernel_rfl, ?_⟩)
                                    conv => whnf
                                    (rw [hfa (by clear ih3; rw [hbd]; simp_all)])
                                · conv => whnf
                                  (refine ⟨by kernel_rfl, ?_⟩)
                                  conv => whnf
                                  (rw [hfa (by clear ih3; rw [hbd]; simp_all)])
                            · conv => whnf
                              (refine ⟨by kernel_rfl, ?_⟩)
                              conv => whnf
                              (rw [hfa (by clear ih3; rw [hbd]; simp_all)])
                      · conv => whnf
                        (refine ⟨by kernel_rfl, ?_⟩)
                        conv => whnf
                        with_reducible cases z16 : kd == Int.ofNat 2
                        · conv => whnf
                          (rw [hfa (by clear ih3; rw [hbd]; simp_all)])
                        · conv => whnf
                          (refine runK_ret (ev_indexRsl (sz := 1) rfl rfl rfl rfl hK0 h4) ?_)
                          conv => whnf
                          (refine runK_if rfl (runK_cell rfl (ints_get (l := c.subs) (k := i2.toNat) hS) (runK_ret rfl ?_)))
                          conv => whnf
                          with_reducible cases z17 : li != IntKind.i64.wrap (Int.ofNat 2 + c.subs[i2.toNat]?.getD (Int.ofNat 0))
                          · conv => whnf
                            with_reducible cases z18 : decide (i2 > Int.ofNat 1)
                            · conv => whnf
                              (refine ⟨by kernel_rfl, ?_⟩)
                              conv => whnf
                              (exact ih3 (IntKind.wrap .i64 (i2 + 1)) _ (hst (by clear ih3; rw [hbd]; simp_all <;> (intro hh; exfalso; omega))) hmu (by kernel_rfl))
                            · conv => whnf
                              (refine runK_ret (ev_indexRsl (sz := 1) rfl rfl rfl rfl hK0 h4) ?_)
                              conv => whnf
                              (refine runK_if rfl (runK_cell rfl (ints_get (l := c.named) (k := i2.toNat) hN) (runK_ret rfl ?_)))
                              conv => whnf
                              with_reducible cases z19 : c.named[i2.toNat]?.getD (Int.ofNat 0) != Int.ofNat 1
                              · conv => whnf
                                (refine runK_ret (ev_indexRsl (sz := 1) rfl rfl rfl rfl hK0 h4) ?_)
                                conv => whnf
                                (refine runK_if rfl (runK_cell rfl (ints_get (l := c.home) (k := i2.toNat) hH) (runK_ret rfl ?_)))
                                conv => whnf
                                with_reducible cases z20 : c.home[i2.toNat]?.getD (Int.ofNat 0) != pa
                                · conv => whnf
                                  with_reducible refine ⟨_, _, cW _ _, ?_⟩
                                  conv => whnf
                                  (refine ⟨by kernel_rfl, ?_⟩)
                                  conv => whnf
                                  (refine ⟨by kernel_rfl, ?_⟩)
                                  conv => whnf
                                  cases wi
                                  · conv => whnf
                                    (rw [hfa (by clear ih3; rw [hbd]; simp_all)])
                                  · conv => whnf
                                    (exact ih3 (IntKind.wrap .i64 (i2 + 1)) _ (hst (by clear ih3; rw [hbd]; simp_all <;> (intro hh; exfalso; omega))) hmu (by kernel_rfl))
                                · conv => whnf
                                  (refine ⟨by kernel_rfl, ?_⟩)
                                  conv => whnf
                                  (rw [hfa (by clear ih3; rw [hbd]; simp_all)])
                              · conv => whnf
                                (refine ⟨by kernel_rfl, ?_⟩)
                                conv => whnf
                                (rw [hfa (by clear ih3; rw [hbd]; simp_all)])
                          · conv => whnf
                            (refine ⟨by kernel_rfl, ?_⟩)
                            conv => whnf
                            (rw [hfa (by clear ih3; rw [hbd]; simp_all)])
                | true =>
                  have h1 := of_decide_eq_true h1
                  have hin : i.toNat < ns.length := by omega
                  obtain ⟨x, hx⟩ : ∃ x, ns[i.toNat]? = some x := ⟨_, List.getElem?_eq_getElem hin⟩
                  have hcx : i.toNat * 25 + 25 ≤ (nodesA ns).length := by rw [nodesA_len]; omega
                  have hdx := nodesA_node hx
                  have hxm := List.mem_of_getElem? hx
                  have hw : IntKind.wrap .i64 (i + 1) = i + 1 := wrap64 (by omega) (by omega)
                  have hmu : (ns.length - IntKind.wrap .i64 (i + 1)).toNat < (ns.length - i).toNat := by rw [hw]; omega
                  have hwa : 0 ≤ IntKind.wrap .i64 (i + 1) ∧ IntKind.wrap .i64 (i + 1) ≤ ns.length := by rw [hw]; omega
                  rw [pass1_drop hI0 hx] at hI2
                  have cE : ∀ (f : FuncId) (h : H), (evAll TE (m + 9)).1 f (.fn 27 [] []) [.agg [.sl (nodesA ns) ns.length t, .int .u32 tg], .agg (nodeA x)] h = some (.ret (.bool (entriesS ns x)), h) := fun f h => entries_c (m + 4) f h ns t tg x (hok x hxm).1 (fun e he => (hok x hxm).2.ents e he) (by have := (hok x hxm).2.entsL; omega)
                  have cT : ∀ (f : FuncId) (h : H) (s n : Int), (evAll TE (m + 9)).1 f (.fn 26 [] []) [.agg [.int .u32 s, .int .u32 n]] h = some (.ret (.bool (decide (n < 1000000000))), h) := fun f h s n => timesC_c (m + 8) f h s n
                  have cI : ∀ (f : FuncId) (h : H) (n : Int), (evAll TE (m + 9)).1 f (.fn 20 [] []) [.agg [.sl (nodesA ns) ns.length t, .int .u32 tg], .int .i64 n, .int .u32 2] h = some (.ret (.bool (dirS ns n)), h) := fun f h n => is_c (m + 7) f h ns t tg n 2
                  have hon : onlyS x = true := by
                    unfold anyBad at hq3
                    have := (List.any_eq_false.1 hq3) x hxm
                    simpa using this
                  have hth : (x.kind == 2) = true → entriesS ns x = true → ∀ e ∈ x.ents, thereS ns e.node = true := fun _ h => entries_there h
                  have hno : (x.kind == 2) = false → x.ents = [] := only_list hon
                  have hel : x.ents.length * 32 ≤ 140737488351232 := (hok x hxm).2.entsL
                  obtain ⟨eo, heo⟩ : ∃ b, entriesS ns x = b := ⟨_, rfl⟩
                  have hnb : nodeBad ns tg g x = (decide (x.gen ≥ tg) || (isGen g x.gen || (decide (x.mode > 4095) || (!decide (x.rn < 1000000000) || (!decide (x.wn < 1000000000) || (!decide (x.tn < 1000000000) || (x.kind == 2 && !eo))))))) := by unfold nodeBad; rw [heo]
                  rw [heo] at cE hth
                  unfold nodeA at cE
                  have hxo := (hok x hxm).1
                  have honeL : oneL (nodeA x) = true := nodeA_one hxo
                  have htop : topL (nodeA x) = 0 := nodeA_top0 hxo
                  unfold nodeA at honeL htop
                  clear hon hok heo
                  obtain ⟨kd, ge, mo, us, ng, li, xrs, xrn, xws, xwn, ts, tn, da, by_, vf, ta, ls, es, pa, nx⟩ := x
                  simp only [NodeS.ok, rowOk, entsOk] at hxo
                  obtain ⟨hd3, hd4⟩ := hxo
                  dsimp only at hnb hth hno cE hI2 hel honeL htop
                  cases qk : (kd != 0) with
                  | false =>
                    rw [qk, if_neg (fun h => Bool.noConfusion h), ← hw] at hI2
                    conv => whnf
                    (refine runK_ret (ev_indexSl (sz := 25) rfl rfl rfl rfl hI0 h1) ?_)
                    conv => whnf
                    (refine runK_ret (ev_loadVA (z := 25) rfl rfl rfl hcx hdx) ?_)
                    conv => whnf
                    (refine runK_store (z := 25) rfl rfl rfl rfl honeL rfl rfl rfl (Nat.le_of_ble_eq_true rfl) (.inl rfl) ?_)
                    conv => whnf
                    (refine listK_of (if_pos (Nat.le_trans (Nat.le_of_eq htop) (Nat.zero_le _))) ?_)
                    conv => whnf
                    ((with_reducible cases z0 : kd != Int.ofNat 0) <;> try exact Bool.noConfusion (Eq.trans (Eq.symm z0) qk))
                    conv => whnf
                    (exact ih (IntKind.wrap .i64 (i + 1), g, c) _ ⟨hwa.1, hwa.2, hI3, hI2⟩ hmu (by kernel_rfl))
                  | true =>
                    rw [qk, if_pos rfl, ← hw] at hI2
                    cases bg : isGen g ge with
                    | true =>
                      have hbt : nodeBad ns tg g ⟨kd, ge, mo, us, ng, li, xrs, xrn, xws, xwn, ts, tn, da, by_, vf, ta, ls, es, pa, nx⟩ = true := by rw [hnb, bg, Bool.true_or, Bool.or_true]
                      rw [hbt, if_pos rfl] at hI2
                      obtain ⟨k, hf1, hf2⟩ := gen_some g ge 0 bg
                      have hf3 := hf2 (.int .i64 2)
                      rw [Nat.zero_add] at hf1 hf3
                      clear ih hf2
                      conv => whnf
                      (refine runK_ret (ev_indexSl (sz := 25) rfl rfl rfl rfl hI0 h1) ?_)
                      conv => whnf
                      (refine runK_ret (ev_loadVA (z := 25) rfl rfl rfl hcx hdx) ?_)
                      conv => whnf
                      (refine runK_store (z := 25) rfl rfl rfl rfl honeL rfl rfl rfl (Nat.le_of_ble_eq_true rfl) (.inl rfl) ?_)
                      conv => whnf
                      (refine listK_of (if_pos (Nat.le_trans (Nat.le_of_eq htop) (Nat.zero_le _))) ?_)
                      conv => whnf
                      ((with_reducible cases z0 : kd != Int.ofNat 0) <;> try exact Bool.noConfusion (Eq.trans (Eq.symm z0) qk))
                      conv => whnf
                      (refine yield_K ?_)
                      conv => whnf
                      (refine runK_store (z := 25) rfl rfl rfl rfl honeL rfl rfl rfl (Nat.le_of_ble_eq_true rfl) (.inl rfl) ?_)
                      conv => whnf
                      (refine listK_of (if_pos (Nat.le_trans (Nat.le_of_eq htop) (Nat.zero_le _))) ?_)
                      conv => whnf
                      (refine runK_ret (v := .int .i64 1) (w := .none) (by simp only [hf1]; rfl) ?_)
                      conv => whnf
                      (refine runK_ret (v := .tup []) (w := .blk 2 (.map ((gensA g).modify k fun e => (e.1, .int .i64 2)))) (by simp only [mapSetA, hf1]; rfl) ?_)
                      conv => whnf
                      (refine listK_of (if_pos (by rw [gmod_top]; exact Nat.zero_le _)) ?_)
                      conv => whnf
                      with_reducible cases z1 : decide (ge ≥ tg)
                      · conv => whnf
                        (refine runK_ret (v := .int .i64 2) (w := .none) (by simp only [hf3]; rfl) ?_)
                        conv => whnf
                        (rw [hI2])
                      · conv => whnf
                        (rw [hI2])
                    | false =>
                      have hf1 := gen_none g ge 0 bg
                      have hf2 := gen_last g ge 0 (.int .i64 1) bg
                      rw [← gensA_app] at hf2
                      have htp := gens_top (g ++ [ge])
                      rw [bg] at hnb
                      obtain ⟨bd, hbd⟩ : ∃ b, nodeBad ns tg g ⟨kd, ge, mo, us, ng, li, xrs, xrn, xws, xwn, ts, tn, da, by_, vf, ta, ls, es, pa, nx⟩ = b := ⟨_, rfl⟩
                      rw [hbd] at hnb hI2
                      have hfa : bd = true → r = false := by
                        intro hb
                        rw [hI2, hb]
                        rfl
                      cases b7 : (kd == 2) with
                      | false =>
                        obtain rfl := hno b7
                        rcases hd4 with ⟨rfl, _⟩ | ⟨lt, rfl⟩
                        · conv => whnf
                          (refine runK_ret (ev_indexSl (sz := 25) rfl rfl rfl rfl hI0 h1) ?_)
                          conv => whnf
                          (refine runK_ret (ev_loadVA (z := 25) rfl rfl rfl hcx hdx) ?_)
                          conv => whnf
                          (refine runK_store (z := 25) rfl rfl rfl rfl honeL rfl rfl rfl (Nat.le_of_ble_eq_true rfl) (.inl rfl) ?_)
                          conv => whnf
                          (refine listK_of (if_pos (Nat.le_trans (Nat.le_of_eq htop) (Nat.zero_le _))) ?_)
                          conv => whnf
                          ((with_reducible cases z0 : kd != Int.ofNat 0) <;> try exact Bool.noConfusion (Eq.trans (Eq.symm z0) qk))
                          conv => whnf
                          (refine yield_K ?_)
                          conv => whnf
                          (refine runK_store (z := 25) rfl rfl rfl rfl honeL rfl rfl rfl (Nat.le_of_ble_eq_true rfl) (.inl rfl) ?_)
                          conv => whnf
                          (refine listK_of (if_pos (Nat.le_trans (Nat.le_of_eq htop) (Nat.zero_le _))) ?_)
                          conv => whnf
                          (refine runK_ret (v := .int .i64 0) (w := .none) (by simp only [hf1]; rfl) ?_)
                          conv => whnf
                          (refine runK_ret (v := .tup []) (w := .blk 2 (.map (gensA (g ++ [ge])))) (by simp only [mapSetA, hf1, gensA_app]; rfl) ?_)
                          conv => whnf
                          (refine listK_of (if_pos (by rw [map_top htp.1 htp.2]; exact Nat.zero_le _)) ?_)
                          conv => whnf
                          with_reducible cases z1 : decide (ge ≥ tg)
                          · conv => whnf
                            (refine runK_ret (v := .int .i64 1) (w := .none) (by simp only [hf2]; rfl) ?_)
                            conv => whnf
                            with_reducible cases z2 : decide (mo > Int.ofNat 4095)
                            · conv => whnf
                              with_reducible refine ⟨_, _, cT _ _ _ _, ?_⟩
                              conv => whnf
                              with_reducible cases z3 : decide (xrn < Int.ofNat 1000000000)
                              · conv => whnf
                                (rw [hfa (by clear ih; rw [hnb]; simp_all)])
                              · conv => whnf
                                with_reducible refine ⟨_, _, cT _ _ _ _, ?_⟩
                                conv => whnf
                                with_reducible cases z4 : decide (xwn < Int.ofNat 1000000000)
                                · conv => whnf
                                  (rw [hfa (by clear ih; rw [hnb]; simp_all)])
                                · conv => whnf
                                  with_reducible refine ⟨_, _, cT _ _ _ _, ?_⟩
                                  conv => whnf
                                  with_reducible cases z5 : decide (tn < Int.ofNat 1000000000)
                                  · conv => whnf
                                    (rw [hfa (by clear ih; rw [hnb]; simp_all)])
                                  · conv => whnf
                                    ((with_reducible cases z6 : kd == Int.ofNat 2) <;> try exact Bool.noConfusion (Eq.trans (Eq.symm z6) b7))
                                    conv => whnf
                                    have hbf : bd = false := by clear ih; rw [hnb]; simp_all
                                    rw [hbf, if_neg (fun h => Bool.noConfusion h)] at hI2
                                    rw [cntE] at hI2
                                    refine ⟨1, Nat.le_of_ble_eq_true rfl, ?_⟩
                                    conv => whnf
                                    (exact ih (IntKind.wrap .i64 (i + 1), g ++ [ge], c) _ ⟨hwa.1, hwa.2, hI3, hI2⟩ hmu (by kernel_rfl))
                            · conv => whnf
                              (rw [hfa (by clear ih; rw [hnb]; simp_all)])
                          · conv => whnf
                            (rw [hfa (by clear ih; rw [hnb]; simp_all)])
                        · conv => whnf
                          (refine runK_ret (ev_indexSl (sz := 25) rfl rfl rfl rfl hI0 h1) ?_)
                          conv => whnf
                          (refine runK_ret (ev_loadVA (z := 25) rfl rfl rfl hcx hdx) ?_)
                          conv => whnf
                          (refine runK_store (z := 25) rfl rfl rfl rfl honeL rfl rfl rfl (Nat.le_of_ble_eq_true rfl) (.inl rfl) ?_)
                          conv => whnf
                          (refine listK_of (if_pos (Nat.le_trans (Nat.le_of_eq htop) (Nat.zero_le _))) ?_)
                          conv => whnf
                          ((with_reducible cases z0 : kd != Int.ofNat 0) <;> try exact Bool.noConfusion (Eq.trans (Eq.symm z0) qk))
                          conv => whnf
                          (refine yield_K ?_)
                          conv => whnf
                          (refine runK_store (z := 25) rfl rfl rfl rfl honeL rfl rfl rfl (Nat.le_of_ble_eq_true rfl) (.inl rfl) ?_)
                          conv => whnf
                          (refine listK_of (if_pos (Nat.le_trans (Nat.le_of_eq htop) (Nat.zero_le _))) ?_)
                          conv => whnf
                          (refine runK_ret (v := .int .i64 0) (w := .none) (by simp only [hf1]; rfl) ?_)
                          conv => whnf
                          (refine runK_ret (v := .tup []) (w := .blk 2 (.map (gensA (g ++ [ge])))) (by simp only [mapSetA, hf1, gensA_app]; rfl) ?_)
                          conv => whnf
                          (refine listK_of (if_pos (by rw [map_top htp.1 htp.2]; exact Nat.zero_le _)) ?_)
                          conv => whnf
                          with_reducible cases z1 : decide (ge ≥ tg)
                          · conv => whnf
                            (refine runK_ret (v := .int .i64 1) (w := .none) (by simp only [hf2]; rfl) ?_)
                            conv => whnf
                            with_reducible cases z2 : decide (mo > Int.ofNat 4095)
                            · conv => whnf
                              with_reducible refine ⟨_, _, cT _ _ _ _, ?_⟩
                              conv => whnf
                              with_reducible cases z3 : decide (xrn < Int.ofNat 1000000000)
                              · conv => whnf
                                (rw [hfa (by clear ih; rw [hnb]; simp_all)])
                              · conv => whnf
                                with_reducible refine ⟨_, _, cT _ _ _ _, ?_⟩
                                conv => whnf
                                with_reducible cases z4 : decide (xwn < Int.ofNat 1000000000)
                                · conv => whnf
                                  (rw [hfa (by clear ih; rw [hnb]; simp_all)])
                                · conv => whnf
                                  with_reducible refine ⟨_, _, cT _ _ _ _, ?_⟩
                                  conv => whnf
                                  with_reducible cases z5 : decide (tn < Int.ofNat 1000000000)
                                  · conv => whnf
                                    (rw [hfa (by clear ih; rw [hnb]; simp_all)])
                                  · conv => whnf
                                    ((with_reducible cases z6 : kd == Int.ofNat 2) <;> try exact Bool.noConfusion (Eq.trans (Eq.symm z6) b7))
                                    conv => whnf
                                    have hbf : bd = false := by clear ih; rw [hnb]; simp_all
                                    rw [hbf, if_neg (fun h => Bool.noConfusion h)] at hI2
                                    rw [cntE] at hI2
                                    refine ⟨1, Nat.le_of_ble_eq_true rfl, ?_⟩
                                    conv => whnf
                                    (exact ih (IntKind.wrap .i64 (i + 1), g ++ [ge], c) _ ⟨hwa.1, hwa.2, hI3, hI2⟩ hmu (by kernel_rfl))
                            · conv => whnf
                              (rw [hfa (by clear ih; rw [hnb]; simp_all)])
                          · conv => whnf
                            (rw [hfa (by clear ih; rw [hnb]; simp_all)])
                      | true =>
                        rcases hd4 with ⟨rfl, rfl⟩ | ⟨lt, rfl⟩
                        · conv => whnf
                          (refine runK_ret (ev_indexSl (sz := 25) rfl rfl rfl rfl hI0 h1) ?_)
                          conv => whnf
                          (refine runK_ret (ev_loadVA (z := 25) rfl rfl rfl hcx hdx) ?_)
                          conv => whnf
                          (refine runK_store (z := 25) rfl rfl rfl rfl honeL rfl rfl rfl (Nat.le_of_ble_eq_true rfl) (.inl rfl) ?_)
                          conv => whnf
                          (refine listK_of (if_pos (Nat.le_trans (Nat.le_of_eq htop) (Nat.zero_le _))) ?_)
                          conv => whnf
                          ((with_reducible cases z0 : kd != Int.ofNat 0) <;> try exact Bool.noConfusion (Eq.trans (Eq.symm z0) qk))
                          conv => whnf
                          (refine yield_K ?_)
                          conv => whnf
                          (refine runK_store (z := 25) rfl rfl rfl rfl honeL rfl rfl rfl (Nat.le_of_ble_eq_true rfl) (.inl rfl) ?_)
                          conv => whnf
                          (refine listK_of (if_pos (Nat.le_trans (Nat.le_of_eq htop) (Nat.zero_le _))) ?_)
                          conv => whnf
                          (refine runK_ret (v := .int .i64 0) (w := .none) (by simp only [hf1]; rfl) ?_)
                          conv => whnf
                          (refine runK_ret (v := .tup []) (w := .blk 2 (.map (gensA (g ++ [ge])))) (by simp only [mapSetA, hf1, gensA_app]; rfl) ?_)
                          conv => whnf
                          (refine listK_of (if_pos (by rw [map_top htp.1 htp.2]; exact Nat.zero_le _)) ?_)
                          conv => whnf
                          with_reducible cases z1 : decide (ge ≥ tg)
                          · conv => whnf
                            (refine runK_ret (v := .int .i64 1) (w := .none) (by simp only [hf2]; rfl) ?_)
                            conv => whnf
                            with_reducible cases z2 : decide (mo > Int.ofNat 4095)
                            · conv => whnf
                              with_reducible refine ⟨_, _, cT _ _ _ _, ?_⟩
                              conv => whnf
                              with_reducible cases z3 : decide (xrn < Int.ofNat 1000000000)
                              · conv => whnf
                                (rw [hfa (by clear ih; rw [hnb]; simp_all)])
                              · conv => whnf
                                with_reducible refine ⟨_, _, cT _ _ _ _, ?_⟩
                                conv => whnf
                                with_reducible cases z4 : decide (xwn < Int.ofNat 1000000000)
                                · conv => whnf
                                  (rw [hfa (by clear ih; rw [hnb]; simp_all)])
                                · conv => whnf
                                  with_reducible refine ⟨_, _, cT _ _ _ _, ?_⟩
                                  conv => whnf
                                  with_reducible cases z5 : decide (tn < Int.ofNat 1000000000)
                                  · conv => whnf
                                    (rw [hfa (by clear ih; rw [hnb]; simp_all)])
                                  · conv => whnf
                                    ((with_reducible cases z6 : kd == Int.ofNat 2) <;> try exact Bool.noConfusion (Eq.trans (Eq.symm z6) b7))
                                    conv => whnf
                                    with_reducible refine ⟨_, _, cE _ _, ?_⟩
                                    conv => whnf
                                    cases eo
                                    · conv => whnf
                                      (rw [hfa (by clear ih; rw [hnb]; simp_all)])
                                    · conv => whnf
                                      have hbf : bd = false := by clear ih; rw [hnb]; simp_all
                                      rw [hbf, if_neg (fun h => Bool.noConfusion h)] at hI2
                                      rw [cntE] at hI2
                                      refine ⟨1, Nat.le_of_ble_eq_true rfl, ?_⟩
                                      conv => whnf
                                      (exact ih (IntKind.wrap .i64 (i + 1), g ++ [ge], c) _ ⟨hwa.1, hwa.2, hI3, hI2⟩ hmu (by kernel_rfl))
                            · conv => whnf
                              (rw [hfa (by clear ih; rw [hnb]; simp_all)])
                          · conv => whnf
                            (rw [hfa (by clear ih; rw [hnb]; simp_all)])
                        · conv => whnf
                          (refine runK_ret (ev_indexSl (sz := 25) rfl rfl rfl rfl hI0 h1) ?_)
                          conv => whnf
                          (refine runK_ret (ev_loadVA (z := 25) rfl rfl rfl hcx hdx) ?_)
                          conv => whnf
                          (refine runK_store (z := 25) rfl rfl rfl rfl honeL rfl rfl rfl (Nat.le_of_ble_eq_true rfl) (.inl rfl) ?_)
                          conv => whnf
                          (refine listK_of (if_pos (Nat.le_trans (Nat.le_of_eq htop) (Nat.zero_le _))) ?_)
                          conv => whnf
                          ((with_reducible cases z0 : kd != Int.ofNat 0) <;> try exact Bool.noConfusion (Eq.trans (Eq.symm z0) qk))
                          conv => whnf
                          (refine yield_K ?_)
                          conv => whnf
                          (refine runK_store (z := 25) rfl rfl rfl rfl honeL rfl rfl rfl (Nat.le_of_ble_eq_true rfl) (.inl rfl) ?_)
                          conv => whnf
                          (refine listK_of (if_pos (Nat.le_trans (Nat.le_of_eq htop) (Nat.zero_le _))) ?_)
                          conv => whnf
                          (refine runK_ret (v := .int .i64 0) (w := .none) (by simp only [hf1]; rfl) ?_)
                          conv => whnf
                          (refine runK_ret (v := .tup []) (w := .blk 2 (.map (gensA (g ++ [ge])))) (by simp only [mapSetA, hf1, gensA_app]; rfl) ?_)
                          conv => whnf
                          (refine listK_of (if_pos (by rw [map_top htp.1 htp.2]; exact Nat.zero_le _)) ?_)
                          conv => whnf
                          with_reducible cases z1 : decide (ge ≥ tg)
                          · conv => whnf
                            (refine runK_ret (v := .int .i64 1) (w := .none) (by simp only [hf2]; rfl) ?_)
                            conv => whnf
                            with_reducible cases z2 : decide (mo > Int.ofNat 4095)
                            · conv => whnf
                              with_reducible refine ⟨_, _, cT _ _ _ _, ?_⟩
                              conv => whnf
                              with_reducible cases z3 : decide (xrn < Int.ofNat 1000000000)
                              · conv => whnf
                                (rw [hfa (by clear ih; rw [hnb]; simp_all)])
                              · conv => whnf
                                with_reducible refine ⟨_, _, cT _ _ _ _, ?_⟩
                                conv => whnf
                                with_reducible cases z4 : decide (xwn < Int.ofNat 1000000000)
                                · conv => whnf
                                  (rw [hfa (by clear ih; rw [hnb]; simp_all)])
                                · conv => whnf
                                  with_reducible refine ⟨_, _, cT _ _ _ _, ?_⟩
                                  conv => whnf
                                  with_reducible cases z5 : decide (tn < Int.ofNat 1000000000)
                                  · conv => whnf
                                    (rw [hfa (by clear ih; rw [hnb]; simp_all)])
                                  · conv => whnf
                                    ((with_reducible cases z6 : kd == Int.ofNat 2) <;> try exact Bool.noConfusion (Eq.trans (Eq.symm z6) b7))
                                    conv => whnf
                                    with_reducible refine ⟨_, _, cE _ _, ?_⟩
                                    conv => whnf
                                    cases eo
                                    · conv => whnf
                                      (rw [hfa (by clear ih; rw [hnb]; simp_all)])
                                    · conv => whnf
                                      have hbf : bd = false := by clear ih; rw [hnb]; simp_all
                                      rw [hbf, if_neg (fun h => Bool.noConfusion h)] at hI2
                                      refine ⟨es.length + 1, by show es.length + 1 ≤ 4611686018427387904; omega, ?_⟩
                                      refine rounds_at (fun s (a : Int × Cnt) => ⟨RG.of 210 [(120, .int .i64 a.1), (119, .int .i64 es.length), (118, .sl (entriesA es) es.length lt), (8, .int .i64 i), (7, .ref 12 0 0), (6, .ref 11 0 0), (5, .ref 10 0 0), (1, .ref 0 0 0)], ⟨(((s.h.bs.set 4 (.cells (numsA .i64 a.2.named) ⟨true, 1, false, true⟩)).set 6 (.cells (numsA .i64 a.2.subs) ⟨true, 1, false, true⟩)).set 8 (.cells (numsA .i64 a.2.home) ⟨true, 1, false, true⟩)), s.h.esc⟩⟩) (fun a => 0 ≤ a.1 ∧ a.1 ≤ es.length ∧ a.2.len ns.length ∧ cntE ns i c es = cntE ns i a.2 (es.drop a.1.toNat)) (fun a => (es.length - a.1).toNat) _ (0, c) ⟨by simp only; omega, by simp only; omega, hI3, rfl⟩ (by simp only; omega) (by kernel_rfl) ?_
                                      intro a m'' hJ ih2
                                      obtain ⟨j, c'⟩ := a
                                      dsimp only at hJ ih2 ⊢
                                      obtain ⟨hJ0, hJ1, hJ3, hJ2⟩ := hJ
                                      conv => whnf
                                      cases h3 : decide (j < (es.length : Int)) with
                                      | false =>
                                        have h3 := of_decide_eq_false h3
                                        rw [List.drop_eq_nil_of_le (by omega), cntE] at hJ2
                                        rw [hJ2] at hI2
                                        clear ih2
                                        conv => whnf
                                        (exact ih (IntKind.wrap .i64 (i + 1), g ++ [ge], c') _ ⟨hwa.1, hwa.2, hJ3, hI2⟩ hmu (by kernel_rfl))
                                      | true =>
                                        have h3 := of_decide_eq_true h3
                                        clear ih hI2
                                        obtain ⟨e, he⟩ : ∃ e, es[j.toNat]? = some e := ⟨_, List.getElem?_eq_getElem (by omega)⟩
                                        have hce : j.toNat * 3 + 3 ≤ (entriesA es).length := by rw [entriesA_len]; omega
                                        have hde := entriesA_entry he
                                        have hte2 := hth b7 rfl e (List.mem_of_getElem? he)
                                        rw [cntE_drop he] at hJ2
                                        have hwj : IntKind.wrap .i64 (j + 1) = j + 1 := wrap64 (by omega) (by omega)
                                        have hmj : (es.length - IntKind.wrap .i64 (j + 1)).toNat < (es.length - j).toNat := by rw [hwj]; omega
                                        have hwb : 0 ≤ IntKind.wrap .i64 (j + 1) ∧ IntKind.wrap .i64 (j + 1) ≤ es.length := by rw [hwj]; omega
                                        rw [show j.toNat + 1 = (IntKind.wrap .i64 (j + 1)).toNat by rw [hwj]; omega] at hJ2
                                        have hl3 := stepE_len (ns := ns) (i := i) (e := e) hJ3
                                        obtain ⟨n1, n2, n3⟩ := hJ3
                                        unfold thereS at hte2
                                        rw [Bool.and_eq_true, Bool.and_eq_true, decide_eq_true_eq, decide_eq_true_eq] at hte2
                                        have he0 : 0 ≤ e.node := by omega
                                        have he1 : e.node < ns.length := hte2.2.1
                                        have hN : e.node.toNat < c'.named.length := by omega
                                        have hH : e.node.toNat < c'.home.length := by omega
                                        have hS : i.toNat < c'.subs.length := by omega
                                        clear hte2
                                        have cJ := fun f h => cI f h e.node
                                        obtain ⟨xa, xb, xc⟩ := e
                                        unfold stepE at hJ2 hl3
                                        dsimp only at cJ hJ2 hl3 he0 he1 hN hH
                                        cases qd : dirS ns xb with
                                        | false =>
                                          rw [qd] at cJ
                                          rw [qd, if_neg (fun h => Bool.noConfusion h)] at hJ2 hl3
                                          conv => whnf
                                          (refine runK_ret (ev_indexSl (sz := 3) rfl rfl rfl rfl hJ0 h3) ?_)
                                          conv => whnf
                                          (refine runK_ret (ev_loadVA (z := 3) rfl rfl rfl hce hde) ?_)
                                          conv => whnf
                                          (refine runK_ret (ev_indexRsl (sz := 1) rfl rfl rfl rfl he0 he1) ?_)
                                          conv => whnf
                                          (refine runK_if rfl (runK_cell rfl (ints_get (l := c'.named) (k := xb.toNat) hN) (runK_ret rfl ?_)))
                                          conv => whnf
                                          (refine runK_ret (ev_indexRsl (sz := 1) rfl rfl rfl rfl he0 he1) ?_)
                                          conv => whnf
                                          (refine runK_if ⟨rfl, rfl, (by show 0 + xb.toNat * 1 + 1 ≤ (numsA .i64 c'.named).length; rw [ints_len]; omega), .inr rfl⟩ ?_)
                                          conv => whnf
                                          (refine listK_of (ints_put (l := c'.named) (k := xb.toNat) hN) ?_)
                                          conv => whnf
                                          (refine runK_ret (ev_indexRsl (sz := 1) rfl rfl rfl rfl he0 he1) ?_)
                                          conv => whnf
                                          (refine runK_if ⟨rfl, rfl, (by show 0 + xb.toNat * 1 + 1 ≤ (numsA .i64 c'.home).length; rw [ints_len]; omega), .inr rfl⟩ ?_)
                                          conv => whnf
                                          (refine listK_of (ints_put (l := c'.home) (k := xb.toNat) hH) ?_)
                                          conv => whnf
                                          with_reducible refine ⟨_, _, cJ _ _, ?_⟩
                                          conv => whnf
                                          (exact ih2 (IntKind.wrap .i64 (j + 1), ⟨bump c'.named xb, c'.subs, c'.home.set xb.toNat i⟩) _ ⟨hwb.1, hwb.2, hl3, hJ2⟩ hmj (by kernel_rfl))
                                        | true =>
                                          rw [qd] at cJ
                                          rw [qd, if_pos rfl] at hJ2 hl3
                                          conv => whnf
                                          (refine runK_ret (ev_indexSl (sz := 3) rfl rfl rfl rfl hJ0 h3) ?_)
                                          conv => whnf
                                          (refine runK_ret (ev_loadVA (z := 3) rfl rfl rfl hce hde) ?_)
                                          conv => whnf
                                          (refine runK_ret (ev_indexRsl (sz := 1) rfl rfl rfl rfl he0 he1) ?_)
                                          conv => whnf
                                          (refine runK_if rfl (runK_cell rfl (ints_get (l := c'.named) (k := xb.toNat) hN) (runK_ret rfl ?_)))
                                          conv => whnf
                                          (refine runK_ret (ev_indexRsl (sz := 1) rfl rfl rfl rfl he0 he1) ?_)
                                          conv => whnf
                                          (refine runK_if ⟨rfl, rfl, (by show 0 + xb.toNat * 1 + 1 ≤ (numsA .i64 c'.named).length; rw [ints_len]; omega), .inr rfl⟩ ?_)
                                          conv => whnf
                                          (refine listK_of (ints_put (l := c'.named) (k := xb.toNat) hN) ?_)
                                          conv => whnf
                                          (refine runK_ret (ev_indexRsl (sz := 1) rfl rfl rfl rfl he0 he1) ?_)
                                          conv => whnf
                                          (refine runK_if ⟨rfl, rfl, (by show 0 + xb.toNat * 1 + 1 ≤ (numsA .i64 c'.home).length; rw [ints_len]; omega), .inr rfl⟩ ?_)
                                          conv => whnf
                                          (refine listK_of (ints_put (l := c'.home) (k := xb.toNat) hH) ?_)
                                          conv => whnf
                                          with_reducible refine ⟨_, _, cJ _ _, ?_⟩
                                          conv => whnf
                                          (refine runK_ret (ev_indexRsl (sz := 1) rfl rfl rfl rfl hI0 h1) ?_)
                                          conv => whnf
                                          (refine runK_if rfl (runK_cell rfl (ints_get (l := c'.subs) (k := i.toNat) hS) (runK_ret rfl ?_)))
                                          conv => whnf
                                          (refine runK_ret (ev_indexRsl (sz := 1) rfl rfl rfl rfl hI0 h1) ?_)
                                          conv => whnf
                                          (refine runK_if ⟨rfl, rfl, (by show 0 + i.toNat * 1 + 1 ≤ (numsA .i64 c'.subs).length; rw [ints_len]; omega), .inr rfl⟩ ?_)
                                          conv => whnf
                                          (refine listK_of (ints_put (l := c'.subs) (k := i.toNat) hS) ?_)
                                          conv => whnf
                                          (exact ih2 (IntKind.wrap .i64 (j + 1), ⟨bump c'.named xb, (bump c'.subs i), c'.home.set xb.toNat i⟩) _ ⟨hwb.1, hwb.2, hl3, hJ2⟩ hmj (by kernel_rfl))
                            · conv => whnf
                              (rw [hfa (by clear ih; rw [hnb]; simp_all)])
                          · conv => whnf
                            (rw [hfa (by clear ih; rw [hnb]; simp_all)])
end Go.Proofs.Ytnkeijebkpjdgaa.Ab
/- Over the engine: access.Bits. -/
namespace Go.Proofs.Ytnkeijebkpjdgaa.Ab
open Go Go.RowKit

def rowsT : List (Int × Int × Int) := [(1, 4, 4), (2, 1, 0), (4, 3, 2), (8, 3, 2), (16, 3, 0), (32, 0, 1)]
def stepB (x : NodeS) (c : CredS) (asked out : Int) (r : Int × Int × Int) : Int :=
  bif (band .u32 asked r.1 != 0) && mayX x c (bif x.kind == 2 then r.2.1 else r.2.2) then bor .u32 out r.1 else out
def outB (x : NodeS) (c : CredS) (asked : Int) (i : Nat) : Int := (rowsT.take i).foldl (stepB x c asked) 0
def bitsX (x : NodeS) (c : CredS) (asked : Int) : Int := outB x c asked 6
def fnB (a b : Int) : AV := .fn 89 [] [.vref [.int .u32 a] 0, .vref [.int .u32 b] 0]
def rowsA : AV := .agg [.int .u32 1, fnB 4 4, .int .u32 2, fnB 1 0, .int .u32 4, fnB 3 2, .int .u32 8, fnB 3 2, .int .u32 16, fnB 3 0, .int .u32 32, fnB 0 1]
set_option maxRecDepth 100000
def bitsS (v : AV) (gen n : Int) (u gr : Int) (gs : AV) (x : NodeS) (asked : Int) (p : Int × Int) : ST :=
  ⟨RG.of 48 [(22, .int .i64 p.1), (21, rowsA), (9, .ref 2 0 0), (8, .int .u32 p.2), (6, .ref 1 0 0), (4, .ref 0 0 0), (3, .int .u32 asked), (1, .int .i64 n)],
    ⟨[.cells [v, .int .u32 gen] ⟨false, 0, false, true⟩, .cells [.int .u32 u, .int .u32 gr, gs] ⟨false, 0, false, true⟩, .cells (attrsS x n) ⟨false, 0, false, true⟩], []⟩⟩
end Go.Proofs.Ytnkeijebkpjdgaa.Ab
/- Over the engine: what only looks: the arguments of a procedure, its result. -/
namespace Go.Proofs.Ytnkeijebkpjdgaa.Ab
open Go Go.RowKit

set_option maxRecDepth 100000
/-- The arguments of a procedure. -/
structure ArgsS where
  proc : Int
  h : AV
  hl : List Int
  name : List UInt8
  h2 : AV
  h2l : List Int
  name2 : List UInt8
  set : SetS
  hasG : Bool
  gs : Int
  gn : Int
  bits : Int
  offset : Int
  count : Int
  max : Int
  stable : Int
  data : AV
  datal : List Int
  target : List UInt8
  how : Int
  kind : Int
  verf : Nat → Int
  cookie : Int
structure ArgsS.ok (a : ArgsS) : Prop where
  h : rowOk .u8 a.h a.hl
  h2 : rowOk .u8 a.h2 a.h2l
  data : rowOk .u8 a.data a.datal
def argL (a : ArgsS) : List AV := [.int .u32 a.proc, a.h, .str a.name, a.h2, .str a.name2, .bool a.set.hm, .int .u32 a.set.mode, .bool a.set.hu, .int .u32 a.set.user, .bool a.set.hg, .int .u32 a.set.group, .bool a.set.hs, .int .u64 a.set.size, .int .u32 a.set.rh, .int .u32 a.set.rs, .int .u32 a.set.rn, .int .u32 a.set.wh, .int .u32 a.set.ws, .int .u32 a.set.wn,
  .bool a.hasG, .int .u32 a.gs, .int .u32 a.gn, .int .u32 a.bits, .int .u64 a.offset, .int .u32 a.count, .int .u32 a.max, .int .u32 a.stable, a.data, .str a.target, .int .u32 a.how, .int .u32 a.kind, .int .u8 (a.verf 0), .int .u8 (a.verf 1), .int .u8 (a.verf 2), .int .u8 (a.verf 3), .int .u8 (a.verf 4), .int .u8 (a.verf 5), .int .u8 (a.verf 6), .int .u8 (a.verf 7), .int .u64 a.cookie]
def worldL (ss sn : Int) (bo : Nat → Int) : List AV := [.int .u32 ss, .int .u32 sn, .int .u8 (bo 0), .int .u8 (bo 1), .int .u8 (bo 2), .int .u8 (bo 3), .int .u8 (bo 4), .int .u8 (bo 5), .int .u8 (bo 6), .int .u8 (bo 7)]
def weak0 : List AV := [.bool false, .int .u64 0, .int .u32 0, .int .u32 0, .int .u32 0, .int .u32 0, .bool false] ++ attrs0
def verf0 : List AV := [.int .u8 0, .int .u8 0, .int .u8 0, .int .u8 0, .int .u8 0, .int .u8 0, .int .u8 0, .int .u8 0]
def longs0 : List AV := [.int .u64 0, .int .u64 0, .int .u64 0]
/-- A result. -/
structure ResS where
  stat : Int
  ha : Bool := false
  at_ : List AV := attrs0
  hd : Bool := false
  dir : List AV := attrs0
  one : List AV := weak0
  hh : Bool := false
  h : AV := .sl0
  bits : Int := 0
  count : Int := 0
  en : Bool := false
  data : AV := .sl0
  target : List UInt8 := []
  verf : List AV := verf0
  space : List AV := longs0
  slots : List AV := longs0
def ansA (p : Int) (r : ResS) : List AV := [.int .u32 p, .int .u32 r.stat, .bool r.ha] ++ r.at_ ++ [.bool r.hd] ++ r.dir ++ r.one ++ weak0 ++ [.bool r.hh, r.h, .int .u32 r.bits, .int .u32 r.count, .bool r.en, r.data, .str r.target, .int .u32 0] ++ r.verf ++ [.sl0] ++ r.space ++ r.slots
theorem oneL_app : ∀ a b : List AV, oneL (a ++ b) = (oneL a && oneL b)
  | [], _ => rfl
  | v :: r, b => by
    show (oneA v && oneL (r ++ b)) = ((oneA v && oneL r) && oneL b)
    rw [oneL_app r b, Bool.and_assoc]
theorem rowOne {k : IntKind} {v : AV} {l : List Int} (h : rowOk k v l) : oneA v = true := by
  rcases h with ⟨rfl, _⟩ | ⟨t, rfl⟩ <;> rfl
theorem args_one {a : ArgsS} (ha : a.ok) : oneL (argL a) = true := by
  have h1 := rowOne ha.h
  have h2 := rowOne ha.h2
  have h3 := rowOne ha.data
  simp [argL, oneL, oneA] at *
  simp_all [oneA]
theorem args_top {a : ArgsS} (ha : a.ok) : topL (argL a) = 0 := by
  have h1 := clean_top _ (row_clean ha.h)
  have h2 := clean_top _ (row_clean ha.h2)
  have h3 := clean_top _ (row_clean ha.data)
  simp [argL, topL, AV.top, h1, h2, h3]
def doesS (p : Int) : Bool := p == 0 || (p == 1 || (p == 3 || (p == 4 || (p == 5 || (p == 6 || (p == 18 || (p == 19 || (p == 20 || p == 21))))))))
def procsM : List (AV × AV) := [(.int .u32 1, .fn 53 [] []), (.int .u32 3, .fn 54 [] []), (.int .u32 4, .fn 55 [] []), (.int .u32 5, .fn 56 [] []), (.int .u32 6, .fn 57 [] []),
  (.int .u32 18, .fn 58 [] []), (.int .u32 19, .fn 53 [] []), (.int .u32 20, .fn 53 [] []), (.int .u32 21, .fn 59 [] [])]
theorem find_miss {p : Int} : ∀ (l : List (Int × AV)) (i : Nat), (∀ e ∈ l, (p == e.1) = false) → findA (.int .u32 p) (l.map fun e => (.int .u32 e.1, e.2)) i = some none
  | [], _, _ => rfl
  | e :: r, i, h => by
    show (match sameCell (.int .u32 p) (.int .u32 e.1) with | some true => _ | some false => _ | none => _) = _
    simp only [sameCell, h e (List.mem_cons_self ..), if_true]
    exact find_miss r (i + 1) fun e he => h e (List.mem_cons_of_mem _ he)
theorem procs_none {p : Int} (h : doesS p = false) : findA (.int .u32 p) procsM 0 = some none := by
  unfold doesS at h
  simp only [Bool.or_eq_false_iff] at h
  refine find_miss (p := p) [(1, _), (3, _), (4, _), (5, _), (6, _), (18, _), (19, _), (20, _), (21, _)] 0 ?_
  intro e he
  simp only [List.mem_cons, List.not_mem_nil, or_false] at he
  rcases he with rfl | rfl | rfl | rfl | rfl | rfl | rfl | rfl | rfl <;> simp_all
theorem does_c (m : Nat) (from_ : FuncId) (h : H) (p : Int) : evCall TE (m + 2) from_ (.fn 32 [] []) [.int .u32 p] h = some (.ret (.bool (doesS p)), h) := by
  cases hd : doesS p with
  | true =>
    unfold doesS at hd
    simp only [Bool.or_eq_true, beq_iff_eq] at hd
    rcases hd with rfl | rfl | rfl | rfl | rfl | rfl | rfl | rfl | rfl | rfl <;> kernel_rfl
  | false =>
    have hf := procs_none hd
    have h0 : (p == 0) = false := by
      unfold doesS at hd
      simp only [Bool.or_eq_false_iff] at hd
      exact hd.1
    refine call_clean (fn := Try.f32) rfl Try.func32 rfl rfl rfl rfl rfl (Nat.le_of_ble_eq_true rfl) ?_
    conv => whnf
    ((with_reducible cases z0 : p == Int.ofNat 0) <;> try exact Bool.noConfusion (Eq.trans (Eq.symm z0) h0))
    conv => whnf
    (refine call_raw (fn := Try.f31) rfl Try.func31 rfl rfl (Nat.le_of_ble_eq_true rfl) ?_)
    conv => whnf
    (refine runK_ret (v := .fn0) (w := .none) (by show (match findA (.int .u32 p) procsM 0 with | some (some (_, v)) => _ | some none => _ | none => _) = _; rw [hf]; rfl) ?_)
    conv => whnf
    rfl
end Go.Proofs.Ytnkeijebkpjdgaa.Ab
/- Over the engine: no tree of no nodes. -/
namespace Go.Proofs.Ytnkeijebkpjdgaa.Ab
open Go Go.RowKit

set_option maxRecDepth 100000
end Go.Proofs.Ytnkeijebkpjdgaa.Ab
/- Over the engine: what only looks: what is refused. -/
namespace Go.Proofs.Ytnkeijebkpjdgaa.Ab
open Go Go.RowKit

set_option maxRecDepth 100000
def credL (c : CredS) : List AV := [.int .u32 c.user, .int .u32 c.group, c.gs]
theorem cred_one {c : CredS} (hc : c.ok) : oneL (credL c) = true := by
  have h := rowOne hc.1
  show (true && (true && (oneA c.gs && true))) = true
  rw [h]
  rfl
theorem cred_top {c : CredS} (hc : c.ok) : topL (credL c) = 0 := by
  have h := clean_top _ (row_clean hc.1)
  show max 0 (max 0 (max c.gs.top 0)) = 0
  rw [h]
  rfl
/-! A region in which a function that makes blocks of its own is called beside a load. -/
/-- A call as it goes. -/
def workL (ns : List NodeS) (gen : Int) (c : CredS) (a : ArgsS) (ss sn : Int) (bo : Nat → Int) : List AV := [.sl (nodesA (ns.map cloneN)) ns.length true, .int .u32 gen] ++ (credL c ++ (argL a ++ (worldL ss sn bo ++ ([.int .i64 0] ++ ansA a.proc { stat := 0 }))))
theorem work_one {ns : List NodeS} {gen : Int} {c : CredS} {a : ArgsS} {ss sn : Int} {bo : Nat → Int} (hc : c.ok) (ha : a.ok) : oneL (workL ns gen c a ss sn bo) = true := by
  unfold workL
  rw [oneL_app, oneL_app, oneL_app, oneL_app, oneL_app, cred_one hc, args_one ha]
  rfl
theorem work_top {ns : List NodeS} {gen : Int} {c : CredS} {a : ArgsS} {ss sn : Int} {bo : Nat → Int} (hc : c.ok) (ha : a.ok) : topL (workL ns gen c a ss sn bo) = 0 := by
  unfold workL
  rw [topL_app, topL_app, topL_app, topL_app, topL_app, cred_top hc, args_top ha]
  rfl
end Go.Proofs.Ytnkeijebkpjdgaa.Ab
