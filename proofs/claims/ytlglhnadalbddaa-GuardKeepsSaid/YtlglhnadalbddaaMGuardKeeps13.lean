import Derived.Test.YtlglhnadalbddaaMGuardKeeps12
import Derived.Laws.BitsLemmas
import Derived.Laws.Bits64
/- Over the engine, third text: creds.In. -/
namespace Go.Proofs.Ytlglhnadalbddaa.Ab
open Go Go.RowKit

theorem wrap64 {i : Int} (h0 : -9223372036854775808 ≤ i) (h1 : i ≤ 9223372036854775807) : IntKind.wrap .i64 i = i := by
  rw [IntKind.wrap_i64]; omega
theorem wrapu32 {i : Int} (h0 : 0 ≤ i) (h1 : i < 4294967296) : IntKind.wrap .u32 i = i := by
  rw [IntKind.wrap_u32]; omega
theorem wf_u32 {x : Int} (h : (Lit.int .u32 x).wf = true) : 0 ≤ x ∧ x < 4294967296 := by
  simp only [Lit.wf, Bool.and_eq_true, decide_eq_true_eq] at h
  rw [show IntKind.u32.min = 0 from rfl, show IntKind.u32.max = 4294967295 from rfl] at h
  omega
set_option maxRecDepth 100000
def idxS (l : List Int) (t : Bool) (g : Int) (i : Int) : ST :=
  ⟨RG.of 19 [(8, .int .i64 i), (7, .int .i64 l.length), (1, .int .u32 g), (0, .sl (numsA .u32 l) l.length t)], ⟨[], []⟩⟩
theorem index_c (m : Nat) (l : List Int) (t : Bool) (g : Int) (hl : l.length ≤ 4611686018427387900) : ∃ v, (∃ r : Int, v = .int .i64 r ∧ (0 ≤ r ↔ g ∈ l)) ∧ ∀ (from_ : FuncId) (h : H), evCall TE (m + 1) from_ (.fn 62 [] []) [.sl (numsA .u32 l) l.length t, .int .u32 g] h = some (.ret v, h) := by
  refine call_cleanP (fn := Try.f62) rfl Try.func62 rfl (fun _ => rfl) rfl rfl (Nat.le_of_ble_eq_true rfl) ?_
  conv => whnf
  refine ⟨l.length + 1, ?_, ?_⟩
  · show l.length + 1 ≤ 4611686018427387904
    omega
  · refine rounds_ind (idxS l t g) (fun i => 0 ≤ i ∧ i ≤ l.length ∧ g ∉ l.take i.toNat) (fun i => (l.length - i).toNat) ?_ _ 0 _ ⟨by omega, by omega, by simp⟩ (by omega) ?_
    · intro i m' hI ih
      conv => whnf
      cases h1 : decide (i < (l.length : Int)) with
      | false =>
        conv => whnf
        have h1 := of_decide_eq_false h1
        refine ⟨rfl, -1, rfl, ⟨by omega, fun hg => absurd ?_ hI.2.2⟩⟩
        rwa [List.take_of_length_le (by omega)]
      | true =>
        have h1 := of_decide_eq_true h1
        obtain ⟨x, hx⟩ : ∃ x, l[i.toNat]? = some x := ⟨_, List.getElem?_eq_getElem (by omega)⟩
        have hc : (numsA .u32 l)[i.toNat * 1]? = some (.int .u32 x) := by rw [Nat.mul_one, numsA, List.getElem?_map, hx]; rfl
        conv => whnf
        refine runK_ret (ev_indexSl (sz := 1) rfl rfl rfl rfl (by omega) h1) ?_
        conv => whnf
        refine runK_ret (ev_loadV (z := 1) rfl rfl rfl hc) ?_
        conv => whnf
        cases h2 : g == x with
        | true =>
          conv => whnf
          have h2 : g = x := by simpa using h2
          exact ⟨rfl, i, rfl, ⟨fun _ => h2 ▸ List.mem_of_getElem? hx, fun _ => hI.1⟩⟩
        | false =>
          conv => whnf
          have h2 : g ≠ x := by simpa using h2
          have hw : IntKind.wrap .i64 (i + 1) = i + 1 := wrap64 (by omega) (by omega)
          refine ih (IntKind.wrap .i64 (i + 1)) _ ?_ ?_ (by kernel_rfl)
          · rw [hw]
            refine ⟨by omega, by omega, ?_⟩
            rw [show (i + 1).toNat = i.toNat + 1 by omega, List.take_add_one, hx]
            simp [hI.2.2, h2]
          · rw [hw]; omega
    · kernel_rfl
theorem index_nil (m : Nat) (from_ : FuncId) (h : H) (g : Int) : evCall TE (m + 1) from_ (.fn 62 [] []) [.sl0, .int .u32 g] h = some (.ret (.int .i64 (-1)), h) := by
  refine call_clean (fn := Try.f62) rfl Try.func62 rfl rfl rfl rfl rfl (Nat.le_of_ble_eq_true rfl) ?_
  conv => whnf
  refine ⟨3, Nat.le_of_ble_eq_true rfl, ?_⟩
  conv => whnf
theorem contains_c (m : Nat) (from_ : FuncId) (h : H) (v : AV) (l : List Int) (g : Int) (hv : rowOk .u32 v l) (hl : l.length ≤ 4611686018427387900) : evCall TE (m + 2) from_ (.fn 56 [] []) [v, .int .u32 g] h = some (.ret (.bool (decide (g ∈ l))), h) := by
  rcases hv with ⟨rfl, rfl⟩ | ⟨t, rfl⟩
  · refine call_clean (fn := Try.f56) rfl Try.func56 rfl rfl rfl rfl rfl (Nat.le_of_ble_eq_true rfl) ?_
    conv => whnf
    refine ⟨_, _, index_nil m _ _ g, ?_⟩
    conv => whnf
    simp
  · refine call_clean (fn := Try.f56) rfl Try.func56 rfl rfl rfl rfl rfl (Nat.le_of_ble_eq_true rfl) ?_
    conv => whnf
    obtain ⟨_, ⟨r, rfl, hr⟩, hc⟩ := index_c m l t g hl
    refine ⟨_, _, hc _ _, ?_⟩
    conv => whnf
    congr 1
    exact decide_eq_decide.2 hr
/-- Who calls. -/
structure CredS where
  user : Int
  group : Int
  gs : AV
  l : List Int
def CredS.ok (c : CredS) : Prop := rowOk .u32 c.gs c.l ∧ c.l.length ≤ 4611686018427387900
def credA (c : CredS) : AV := .agg [.int .u32 c.user, .int .u32 c.group, c.gs]
def inS (c : CredS) (g : Int) : Bool := c.group == g || decide (g ∈ c.l)
set_option maxHeartbeats 1000000 in
theorem in_c (m : Nat) (from_ : FuncId) (h : H) (c : CredS) (g : Int) (hc : c.ok) : evCall TE (m + 3) from_ (.fn 46 [] []) [credA c, .int .u32 g] h = some (.ret (.bool (inS c g)), h) := by
  obtain ⟨u, gr, gs, l⟩ := c
  obtain ⟨h1, h2⟩ := hc
  unfold inS
  dsimp only at h1 h2 ⊢
  have key := fun (f : FuncId) (h : H) => contains_c (m := m) f h gs l g h1 h2
  rcases h1 with ⟨rfl, rfl⟩ | ⟨t, rfl⟩
  all_goals refine call_clean (fn := Try.f46) rfl Try.func46 rfl rfl rfl rfl rfl (Nat.le_of_ble_eq_true rfl) ?_
  all_goals conv => whnf
  all_goals cases h3 : gr == g
  all_goals conv => whnf
  all_goals first | rfl | refine ⟨_, _, key _ _, ?_⟩
  all_goals conv => whnf
  all_goals rfl
end Go.Proofs.Ytlglhnadalbddaa.Ab
/- Over the engine, fourth text: access.May, access.Owns, access.Bits. -/
namespace Go.Proofs.Ytlglhnadalbddaa.Ab
open Go Go.RowKit

def band (k : IntKind) (a b : Int) : Int := IntKind.wrap k ((BitVec.ofInt k.bits a &&& BitVec.ofInt k.bits b).toNat : Int)
def bor (k : IntKind) (a b : Int) : Int := IntKind.wrap k ((BitVec.ofInt k.bits a ||| BitVec.ofInt k.bits b).toNat : Int)
def shr (a s : Int) : Int := a.fdiv (2 ^ (min s.toNat 32))
def mayX (x : NodeS) (c : CredS) (what : Int) : Bool :=
  !decide (what < 1) && (!decide (what > 7) && bif c.user == 0 then band .u32 what 1 == 0 || (x.kind != 1 || band .u32 x.mode 73 != 0)
    else bif c.user == x.user then band .u32 (shr x.mode 6) what == what else bif inS c x.group then band .u32 (shr x.mode 3) what == what else band .u32 (shr x.mode 0) what == what)
set_option maxRecDepth 100000
theorem may_none (m : Nat) (from_ : FuncId) (h : H) (v : AV) (ns : List NodeS) (hv : nodesOk v ns) (gen n : Int) (c : CredS) (what : Int) (hc : c.ok) (hn : thereS ns n = false) : evCall TE (m + 3) from_ (.fn 57 [] []) [.agg [v, .int .u32 gen], .int .i64 n, credA c, .int .u32 what] h = some (.ret (.bool false), h) := by
  have hat := fun (f : FuncId) (h : H) => attrs_none m f h v ns hv gen n hn
  obtain ⟨u, gr, gs, l⟩ := c
  obtain ⟨h1, h2⟩ := hc
  dsimp only at h1 h2
  rcases h1 with ⟨rfl, rfl⟩ | ⟨tt, rfl⟩ <;> rcases hv with ⟨rfl, rfl⟩ | ⟨t, rfl⟩
  all_goals refine call_clean (fn := Try.f57) rfl Try.func57 rfl rfl rfl rfl rfl (Nat.le_of_ble_eq_true rfl) ?_
  all_goals conv => whnf
  all_goals refine ⟨_, _, hat _ _, ?_⟩
  all_goals conv => whnf
set_option maxHeartbeats 8000000 in
theorem may_some (m : Nat) (from_ : FuncId) (h : H) (v : AV) (ns : List NodeS) (hv : nodesOk v ns) (gen n : Int) (c : CredS) (what : Int) (hc : c.ok) (x : NodeS) (hn : thereS ns n = true) (hx : ns[n.toNat]? = some x) (hok : x.ok) :
    evCall TE (m + 4) from_ (.fn 57 [] []) [.agg [v, .int .u32 gen], .int .i64 n, credA c, .int .u32 what] h = some (.ret (.bool (mayX x c what)), h) := by
  have hat := fun (f : FuncId) (h : H) => attrs_some (m + 1) f h v ns hv gen n x hn hx hok
  have hin := fun (f : FuncId) (h : H) => in_c m f h c x.group hc
  obtain ⟨u, gr, gs, l⟩ := c
  obtain ⟨h1, h2⟩ := hc
  dsimp only at h1 h2
  rcases hv with ⟨rfl, rfl⟩ | ⟨t, rfl⟩
  · simp at hx
  unfold mayX band shr
  dsimp only
  rcases h1 with ⟨rfl, rfl⟩ | ⟨tt, rfl⟩
  · refine call_clean (fn := Try.f57) rfl Try.func57 rfl rfl rfl rfl rfl (Nat.le_of_ble_eq_true rfl) ?_
    conv => whnf
    refine ⟨_, _, hat _ _, ?_⟩
    conv => whnf
    cases h1 : decide (what < 1) with
    | true =>
      conv => whnf
      rfl
    | false =>
      conv => whnf
      cases h2 : decide (what > 7) with
      | true =>
        conv => whnf
        rfl
      | false =>
        conv => whnf
        cases h3 : u == 0 with
        | true =>
          conv => whnf
          cases h4 : IntKind.wrap .u32 ((BitVec.ofInt IntKind.u32.bits what &&& BitVec.ofInt IntKind.u32.bits 1).toNat : Int) == 0 with
          | true =>
            conv => whnf
            rfl
          | false =>
            conv => whnf
            cases h5 : x.kind != 1 with
            | true =>
              conv => whnf
              rfl
            | false =>
              conv => whnf
              rfl
        | false =>
          conv => whnf
          cases h4 : u == x.user with
          | true =>
            conv => whnf
            rfl
          | false =>
            conv => whnf
            refine ⟨_, _, hin _ _, ?_⟩
            cases h5 : inS _ x.group with
            | true =>
              conv => whnf
              rfl
            | false =>
              conv => whnf
              rfl
  · refine call_clean (fn := Try.f57) rfl Try.func57 rfl rfl rfl rfl rfl (Nat.le_of_ble_eq_true rfl) ?_
    conv => whnf
    refine ⟨_, _, hat _ _, ?_⟩
    conv => whnf
    cases h1 : decide (what < 1) with
    | true =>
      conv => whnf
      rfl
    | false =>
      conv => whnf
      cases h2 : decide (what > 7) with
      | true =>
        conv => whnf
        rfl
      | false =>
        conv => whnf
        cases h3 : u == 0 with
        | true =>
          conv => whnf
          cases h4 : IntKind.wrap .u32 ((BitVec.ofInt IntKind.u32.bits what &&& BitVec.ofInt IntKind.u32.bits 1).toNat : Int) == 0 with
          | true =>
            conv => whnf
            rfl
          | false =>
            conv => whnf
            cases h5 : x.kind != 1 with
            | true =>
              conv => whnf
              rfl
            | false =>
              conv => whnf
              rfl
        | false =>
          conv => whnf
          cases h4 : u == x.user with
          | true =>
            conv => whnf
            rfl
          | false =>
            conv => whnf
            refine ⟨_, _, hin _ _, ?_⟩
            cases h5 : inS _ x.group with
            | true =>
              conv => whnf
              rfl
            | false =>
              conv => whnf
              rfl
end Go.Proofs.Ytlglhnadalbddaa.Ab
/- Over the engine: more operations with letters; what is handed back, by lemmas. -/
namespace Go.Proofs.Ytlglhnadalbddaa.Ab
open Go Go.RowKit

theorem splice_nil : ∀ (c : List AV) (k : Nat), splice c k [] = c
  | [], _ => rfl
  | _ :: _, 0 => rfl
  | x :: c, k + 1 => by simp only [splice, splice_nil c k]
theorem splice_left : ∀ (a b : List AV) (k : Nat) (vs : List AV), k + vs.length ≤ a.length → splice (a ++ b) k vs = splice a k vs ++ b
  | [], b, 0, [], _ => by cases b <;> rfl
  | [], b, k, v :: vs, h => by simp at h
  | [], b, k + 1, [], h => by simp at h
  | x :: a, b, 0, [], _ => rfl
  | x :: a, b, 0, v :: vs, h => by
    have := splice_left a b 0 vs (by simp at h ⊢; omega)
    simp only [List.cons_append, splice, this]
  | x :: a, b, k + 1, vs, h => by
    have := splice_left a b k vs (by simp at h ⊢; omega)
    simp only [List.cons_append, splice, this]
theorem splice_right : ∀ (a b : List AV) (k : Nat) (vs : List AV), splice (a ++ b) (a.length + k) vs = a ++ splice b k vs
  | [], b, k, vs => by simp
  | x :: a, b, k, vs => by
    rw [List.length_cons, show a.length + 1 + k = (a.length + k) + 1 by omega, List.cons_append]
    simp only [splice, splice_right a b k vs, List.cons_append]
theorem splice_rows {α : Type} {f : α → List AV} {z : Nat} (hf : ∀ x, (f x).length = z) : ∀ {l : List α} {i : Nat} {x x' : α} {k : Nat} {vs : List AV}, l[i]? = some x → k + vs.length ≤ z → splice (f x) k vs = f x' → splice (l.map f).flatten (i * z + k) vs = ((l.set i x').map f).flatten
  | [], i, x, x', k, vs, h, _, _ => by simp at h
  | y :: l, 0, x, x', k, vs, h, hk, he => by
    simp at h
    subst h
    rw [List.map_cons, List.flatten_cons, Nat.zero_mul, Nat.zero_add, splice_left _ _ _ _ (by rw [hf]; exact hk), he]
    rfl
  | y :: l, i + 1, x, x', k, vs, h, hk, he => by
    simp at h
    rw [List.map_cons, List.flatten_cons, show (i + 1) * z + k = (f y).length + (i * z + k) by rw [hf, Nat.add_mul]; omega, splice_right, splice_rows hf h hk he]
    rfl
theorem splice_nodes {ns : List NodeS} {i : Nat} {x x' : NodeS} {k : Nat} {vs : List AV} (hx : ns[i]? = some x) (hk : k + vs.length ≤ 25) (he : splice (nodeA x) k vs = nodeA x') : splice (nodesA ns) (i * 25 + k) vs = nodesA (ns.set i x') := splice_rows nodeA_len hx hk he

section
variable {P : Program} {flat : TypeId → Option (List Nat)} {nid : Nat} {ρ : Operand → AV}
/-- An append to an empty row. -/
theorem runK_append_new {t u e e' : TypeId} {sz by_ : Nat} {zc : List AV} {a x : Operand} {b n : Nat} {cells c : List AV} {tt : Bool} {i : BI} {h : List AB} {K : List RL → AV → WL → Prop} (ht : P.underlying t = some (.slice e)) (hu : P.underlying u = some (.slice e')) (hs : szOf P e = some sz) (hb : bytesA P e = some by_) (hz : zeroCellsA P e = some zc)
    (ha : ρ a = .rsl b 0 0 (some 0) 0) (hx : ρ x = .sl cells n tt) (hbb : h[b]? = some (.cells c i)) (hver : 0 = verA i c.length) (hn : 0 < n) (hl : cells.length = n * sz) (h1 : n ≤ 140737488355328) (h2 : n * by_ ≤ 140737488355328) (h3 : 0 < sz) (h4 : zc.length = sz)
    (hk : K [.info b, .cells b 0 (0 * sz)] (.rsl nid 0 n none (cells.length + 1)) (.new (.cells cells ⟨plainL zc, sz, true, true⟩))) : runK (evOp P flat nid (.call { callee := .builtin .append, args := #[a, x], argTypes := #[t, u] }) ρ) h K := by
  simp only [evOp, builtinA, List.map_cons, List.map_nil, appendA, ht, hs, hb, hz, ha, hx, newCells, List.head?_cons, hu, lenOfA, sliceCells, Option.getD_some]
  have e1 : (if True ∧ cells.length = n * sz then cells else cells.take (n * sz)) = cells := if_pos ⟨trivial, hl⟩
  simp only [e1]
  rw [if_pos ⟨Nat.le_refl _, by omega⟩, if_pos ⟨by omega, by rw [Nat.zero_add]; exact h2, h3, h4⟩]
  unfold runK
  simp only [hbb]
  rw [if_pos hver, if_neg (by omega)]
  unfold runK
  simp only [hbb]
  rw [if_pos (by omega)]
  refine runK_ret (v := .rsl nid 0 n none (cells.length + 1)) (w := .new (.cells cells ⟨plainL zc, sz, true, true⟩)) ?_ hk
  simp [cleanL]
theorem ev_clip {t e : TypeId} {sz n : Nat} {a hi mx : Operand} {cells : List AV} {tt : Bool} {k k' : IntKind} (ht : P.underlying t = some (.slice e)) (hs : szOf P e = some sz) (ha : ρ a = .sl cells n tt) (hh : ρ hi = .int k n) (hm : ρ mx = .int k' n) (hl : cells.length = n * sz) :
    evOp P flat nid (.slice t a none (some hi) (some mx)) ρ = .ret (.sl cells n true, .none) := by
  simp only [evOp, sliceA, ht, ha, hs, Option.map_some, Option.map_none, boundsA, boundA, hh, hm]
  rw [if_pos ⟨by omega, by omega⟩]
  simp only [Int.toNat_natCast]
  rw [if_pos ⟨by omega, by omega⟩]
  simp only [Nat.le_refl, and_self, if_true, hl, tightS, Int.toNat_natCast, decide_true, Nat.sub_zero]
end
theorem splice_all : ∀ (c vs : List AV), c.length = vs.length → splice c 0 vs = vs
  | [], [], _ => rfl
  | [], _ :: _, h => by simp at h
  | _ :: _, [], h => by simp at h
  | x :: c, v :: vs, h => by simp only [splice, splice_all c vs (by simpa using h)]
section
variable {P : Program} {flat : TypeId → Option (List Nat)} {nid : Nat} {ρ : Operand → AV}
/-- A copy of a whole row. -/
theorem runK_copy_all {t u e : TypeId} {sz : Nat} {a x : Operand} {b n : Nat} {cap : Option Nat} {cells c : List AV} {tt : Bool} {i : BI} {h : List AB} {K : List RL → AV → WL → Prop} (ht : P.underlying t = some (.slice e)) (hs : szOf P e = some sz)
    (ha : ρ a = .rsl b 0 n cap 0) (hx : ρ x = .sl cells n tt) (hbb : h[b]? = some (.cells c i)) (hver : 0 = verA i c.length) (hw : i.wr = true) (hl : cells.length = n * sz) (hc : c.length = n * sz)
    (hk : K [.info b] (.int .i64 n) (.put b 0 cells)) : runK (evOp P flat nid (.call { callee := .builtin .copy, args := #[a, x], argTypes := #[t, u] }) ρ) h K := by
  simp only [evOp, builtinA, List.map_cons, List.map_nil, copyA, ht, hs, ha, hx, lenOfA, sliceCells, Nat.min_self]
  have e1 : (if True ∧ cells.length = n * sz then cells else cells.take (n * sz)) = cells := if_pos ⟨trivial, hl⟩
  simp only [e1]
  rw [if_pos ⟨Nat.le_refl _, by omega⟩]
  unfold runK
  simp only [hbb]
  rw [if_pos ⟨hver, hw, by omega, .inr trivial⟩]
  exact runK_ret rfl hk
end
section
variable {P : Program} {flat : TypeId → Option (List Nat)} {nid : Nat} {ρ : Operand → AV}
theorem ev_makeN {t e : TypeId} {sz by_ : Nat} {z cs : List AV} {a b : Operand} {k k' : IntKind} {n : Nat} (ht : P.underlying t = some (.slice e)) (hs : szOf P e = some sz) (hb : bytesA P e = some by_) (hz : zeroCellsA P e = some z) (ha : ρ a = .int k n) (hy : ρ b = .int k' n)
    (h2 : n ≤ 140737488355328) (h3 : by_ * n ≤ 140737488355328) (h4 : z.length = sz) (h5 : 0 < sz) (h6 : oneL z = true) (hcs : repCells n z = cs) :
    evOp P flat nid (.makeSlice t a b) ρ = .ret (.rsl nid 0 n (some n) 0, .new (.cells cs ⟨cleanL z && plainL z, sz, false, true⟩)) := by
  rw [ev_makeSlice ht hs hb hz ha hy (by omega) (by omega) (by omega) (by have : (by_ * (n : Int)) = ((by_ * n : Nat) : Int) := by rw [Int.natCast_mul]
                                                                          omega) h4 h5 h6, Int.toNat_natCast, hcs]
end
section
variable {P : Program} {flat : TypeId → Option (List Nat)} {nid : Nat} {ρ : Operand → AV}
theorem ev_box {t : TypeId} {x : Operand} {c : List AV} (hx : (ρ x).toCells = some c) (ho : oneL c = true) : evOp P flat nid (.box t x) ρ = .ret (.ref nid 0 0, .new (.cells c ⟨false, 0, false, true⟩)) := by
  simp only [evOp, hx, ho, if_true]
/-- A copy of as much as fits. -/
theorem runK_copy_part {t u e : TypeId} {a x : Operand} {b n m : Nat} {cap : Option Nat} {cells c : List AV} {tt : Bool} {i : BI} {h : List AB} {K : List RL → AV → WL → Prop} (ht : P.underlying t = some (.slice e)) (hs : szOf P e = some 1)
    (ha : ρ a = .rsl b 0 m cap 0) (hx : ρ x = .sl cells n tt) (hbb : h[b]? = some (.cells c i)) (hver : 0 = verA i c.length) (hw : i.wr = true) (hl : cells.length = n) (hc : c.length = m)
    (hk : K [.info b] (.int .i64 (min n m : Nat)) (.put b 0 (cells.take (min n m)))) : runK (evOp P flat nid (.call { callee := .builtin .copy, args := #[a, x], argTypes := #[t, u] }) ρ) h K := by
  simp only [evOp, builtinA, List.map_cons, List.map_nil, copyA, ht, hs, ha, hx, lenOfA, sliceCells, Nat.mul_one]
  have e1 : (if min n m = n ∧ cells.length = min n m then cells else cells.take (min n m)) = cells.take (min n m) := by
    split
    · rename_i h
      rw [List.take_of_length_le (by omega)]
    · rfl
  simp only [e1]
  rw [if_pos ⟨Nat.min_le_left _ _, by omega⟩]
  unfold runK
  simp only [hbb]
  rw [if_pos ⟨hver, hw, by omega, .inr trivial⟩]
  exact runK_ret rfl hk
theorem runK_copy_letter {t u e : TypeId} {a x : Operand} {b n m : Nat} {cap : Option Nat} {cells c : List AV} {tt : Bool} {i : BI} {h : List AB} {K : List RL → AV → WL → Prop} (ht : P.underlying t = some (.slice e)) (hs : szOf P e = some 1)
    (ha : ρ a = .rsl b 0 m cap 0) (hx : ρ x = .sl cells n tt) (hbb : h[b]? = some (.cells c i)) (hver : 0 = verA i c.length) (hw : i.wr = true) (hl : cells.length = n) (hc : c.length = m)
    (hk : ∀ cs (k : Int), cs = cells.take (min n m) → K [.info b] (.int .i64 k) (.put b 0 cs)) : runK (evOp P flat nid (.call { callee := .builtin .copy, args := #[a, x], argTypes := #[t, u] }) ρ) h K :=
  runK_copy_part ht hs ha hx hbb hver hw hl hc (hk _ _ rfl)
theorem runK_copy_nil {t u e : TypeId} {sz : Nat} {a x : Operand} {b m : Nat} {cap : Option Nat} {c : List AV} {i : BI} {h : List AB} {K : List RL → AV → WL → Prop} (ht : P.underlying t = some (.slice e)) (hs : szOf P e = some sz)
    (ha : ρ a = .rsl b 0 m cap 0) (hx : ρ x = .sl0) (hbb : h[b]? = some (.cells c i)) (hver : 0 = verA i c.length) (hw : i.wr = true)
    (hk : K [.info b] (.int .i64 0) (.put b 0 [])) : runK (evOp P flat nid (.call { callee := .builtin .copy, args := #[a, x], argTypes := #[t, u] }) ρ) h K := by
  simp only [evOp, builtinA, List.map_cons, List.map_nil, copyA, ht, hs, ha, hx, lenOfA, sliceCells, Nat.zero_min, if_true]
  unfold runK
  simp only [hbb]
  rw [if_pos ⟨hver, hw, by omega, .inr trivial⟩]
  exact runK_ret rfl hk
end
/-- What is handed back, when it is known how it is sealed. -/
theorem leaveA_of {n : Nat} {v v' : AV} {h : H} {bs' : List AB} (hs : v.seal h.bs = (v', bs')) (hu : v'.und n = true) (he : escOk n h.esc = true) : leaveA false n v h = (v', { bs := bs'.take n, esc := escCut n h.esc }) := by
  unfold leaveA
  simp only [hs, hu, he, Bool.false_eq_true, if_false, Bool.and_self, if_true]
theorem seal_rsl {bs : List AB} {b off n ver : Nat} {cap : Option Nat} {c : List AV} {i : BI} (hb : bs[b]? = some (.cells c i)) (hv : ver = verA i c.length) (hw : i.wr = true) (hcl : i.cl = true) (hl : off + n * i.sz ≤ c.length) (hz : 0 < i.sz) :
    AV.seal bs (.rsl b off n cap ver) = (.sl ((c.drop off).take (n * i.sz)) n (tightA cap n), bs.set b (.cells c { i with wr := false })) := argA_rsl hb hv hw hcl hl hz
/-- The end of a body, told by a letter. -/
def EndOk (P : Program) (fn : Func) (raw : Bool) (n : Nat) (K : AV → H → Prop) (End : AX → ST → Prop) : Prop :=
  ∀ (x : AX) (s : ST) (vs : List AV) (v' : AV) (h' : H), (x = .normal ∨ x = .ret) → resA P s fn.results.toList = some vs → leaveA raw n (asOne vs) s.h = (v', h') → K v' h' → End x s
theorem body_end {E : Env} {call : CallF} {jmp : JumpF} {raw : Bool} {f : FuncId} {fn : Func} {c : Code} {args : List AV} {h : H} {K : AV → H → Prop} (hn : args.length ≤ fn.ntmps)
    (hwp : ∀ End, EndOk E.P fn raw h.bs.length K End → putsK (RG.empty fn.ntmps) 0 args fun r => codeK E call f jmp false c ⟨r, h⟩ End) : ∃ v h', evBody E call jmp raw f fn c args h = some (.ret v, h') ∧ K v h' := by
  have hw := hwp (fun x s => ∃ vs v' h', (x = .normal ∨ x = .ret) ∧ resA E.P s fn.results.toList = some vs ∧ leaveA raw h.bs.length (asOne vs) s.h = (v', h') ∧ K v' h') (fun x s vs v' h' h1 h2 h3 h4 => ⟨vs, v', h', h1, h2, h3, h4⟩)
  rw [putsK_eq] at hw
  obtain ⟨x, s', h1, vs, v', h', h2, h3, h4, h5⟩ := codeK_sound _ _ _ _ _ _ hw
  refine ⟨v', h', ?_, h5⟩
  unfold evBody
  rw [if_pos hn]
  rcases h2 with rfl | rfl <;> simp only [h1, h3, h4]
/-- call_clean, with the end told by a letter. -/
theorem call_cleanE {E : Env} {n : Nat} {from_ f : FuncId} {fn : Func} {c : Code} {x y args : List AV} {v : AV} {h : H} (hok : E.ok f = true) (hf : E.P.funcs[f]? = some fn) (hb : fn.body = some c) (hraw : E.raw from_ f = false) (hcl : cleanL (x ++ args ++ y) = true) (hv : v.clean = true)
    (hsum : E.sum f (x ++ args ++ y) = none) (hn : (x ++ args ++ y).length ≤ fn.ntmps)
    (hwp : ∀ End, EndOk E.P fn false 0 (fun v' _ => v' = v) End → putsK (RG.empty fn.ntmps) 0 (x ++ args ++ y) fun r => codeK E (evAll E n).1 f (evAll E n).2 false c ⟨r, ⟨[], []⟩⟩ End) : evCall E (n + 1) from_ (.fn f x y) args h = some (.ret v, h) := by
  obtain ⟨v', h', hk, rfl⟩ := body_end (h := ⟨[], []⟩) hn hwp
  have hcl' : cleanL args = true := by
    rw [cleanL_app, cleanL_app, Bool.and_eq_true, Bool.and_eq_true] at hcl
    exact hcl.1.2
  show stepCall E (evAll E n).1 (evAll E n).2 from_ (.fn f x y) args h = _
  unfold stepCall stepCall0
  simp only [hcl', Bool.not_true, Bool.and_false, hraw, argsA_clean args h.bs hcl', hok, hf, hb, hcl, hsum, hk, hv, Bool.false_eq_true, if_false, Bool.not_false, Bool.and_true, if_true]
/-- A function that was handed its first arguments before. -/
theorem call_bound {E : Env} {n : Nat} {from_ f : FuncId} {x : List AV} {h : H} (hcl : cleanL x = true) (hraw : E.raw from_ f = false) : evCall E (n + 1) from_ (.fn f x []) [] h = evCall E (n + 1) from_ (.fn f [] []) x h := by
  show stepCall E (evAll E n).1 (evAll E n).2 from_ (.fn f x []) [] h = stepCall E (evAll E n).1 (evAll E n).2 from_ (.fn f [] []) x h
  unfold stepCall stepCall0
  simp only [hcl, show cleanL [] = true from rfl, Bool.not_true, Bool.and_false, hraw, argsA_clean x h.bs hcl, argsA_clean [] h.bs rfl, List.append_nil, List.nil_append, Bool.false_eq_true, if_false]
/-! Sealing. -/
mutual
theorem sealV_clean (deep : List AB → List AV → List AV × List AB) (bs : List AB) : ∀ v : AV, v.clean = true → sealV deep bs v = (v, bs)
  | .ref .., h => by simp [AV.clean] at h
  | .rsl .., h => by simp [AV.clean] at h
  | .fn f x y, h => by
    simp only [AV.clean, Bool.and_eq_true] at h
    simp only [sealV, sealVL_clean deep bs x h.1, sealVL_clean deep bs y h.2]
  | .ifc t v, h => by
    simp only [AV.clean] at h
    simp only [sealV, sealV_clean deep bs v h]
  | .agg c, h => by
    simp only [AV.clean] at h
    simp only [sealV, sealVL_clean deep bs c h]
  | .tup c, h => by
    simp only [AV.clean] at h
    simp only [sealV, sealVL_clean deep bs c h]
  | .hole, _ => rfl
  | .bool _, _ => rfl
  | .int .., _ => rfl
  | .str _, _ => rfl
  | .ptr0, _ => rfl
  | .sl0, _ => rfl
  | .map0, _ => rfl
  | .fn0, _ => rfl
  | .ifc0, _ => rfl
  | .vref .., _ => rfl
  | .sl .., _ => rfl
  | .mref _, _ => rfl
  | .yc _, _ => rfl
theorem sealVL_clean (deep : List AB → List AV → List AV × List AB) (bs : List AB) : ∀ l : List AV, cleanL l = true → sealVL deep bs l = (l, bs)
  | [], _ => rfl
  | v :: r, h => by
    simp only [cleanL, Bool.and_eq_true] at h
    simp only [sealVL, sealV_clean deep bs v h.1, sealVL_clean deep bs r h.2]
end
theorem sealVL_app (deep : List AB → List AV → List AV × List AB) : ∀ (a b : List AV) (bs : List AB), sealVL deep bs (a ++ b) = ((sealVL deep bs a).1 ++ (sealVL deep (sealVL deep bs a).2 b).1, (sealVL deep (sealVL deep bs a).2 b).2)
  | [], b, bs => rfl
  | x :: a, b, bs => by
    simp only [List.cons_append, sealVL, sealVL_app deep a b]
/-- A row whose cells are sealed in their turn. -/
theorem seal_deep {bs bs' : List AB} {b n ver : Nat} {cap : Option Nat} {c c' d : List AV} {i j : BI} (hb : bs[b]? = some (.cells c i)) (hv : ver = verA i c.length) (hw : i.wr = true) (hcl : i.cl = false) (hd : sealVL (sealL 3) bs c = (c', bs')) (hb' : bs'[b]? = some (.cells d j))
    (h1 : cleanL c' = true) (h2 : c'.length = c.length) (h3 : d.length = c.length) (h4 : j.wr = true) (h5 : j.opn = i.opn) (h6 : j.sz = i.sz) (hl : c.length = n * i.sz) (hz : 0 < i.sz) : AV.seal bs (.rsl b 0 n cap ver) = (.sl c' n (tightA cap n), bs'.set b (.cells c' { j with cl := true, wr := false })) := by
  unfold AV.seal
  have hs : sealB (sealL 4) bs b ver = some (c', i, bs'.set b (.cells c' { j with cl := true, wr := false })) := by
    unfold sealB
    have e : sealL 4 bs c = (c', bs') := hd
    simp only [hb, e, hw, hcl, hb', h1, h2, h3, h4, h5, h6, Bool.true_eq_false, Bool.false_eq_true, if_false, if_true, beq_self_eq_true, Bool.and_self]
    rw [if_pos hv]
  simp only [sealV, hs]
  rw [if_pos ⟨by omega, hz⟩, if_pos ⟨trivial, by omega⟩]
end Go.Proofs.Ytlglhnadalbddaa.Ab
/- Over the engine: names and paths. -/
namespace Go.Proofs.Ytlglhnadalbddaa.Ab
open Go Go.RowKit

set_option maxRecDepth 100000
/-- Has a text a byte? -/
def has (s : List UInt8) (c : Int) : Bool := s.any fun b => ((b.toNat : Int) == c)
theorem has_drop {s : List UInt8} {i : Nat} {b : UInt8} {c : Int} (h : s[i]? = some b) : has (s.drop i) c = (((b.toNat : Int) == c) || has (s.drop (i + 1)) c) := by
  obtain ⟨h1, rfl⟩ := List.getElem?_eq_some_iff.1 h
  unfold has
  rw [List.drop_eq_getElem_cons h1, List.any_cons]
section
variable {P : Program} {flat : TypeId → Option (List Nat)} {nid : Nat} {ρ : Operand → AV}
theorem ev_indexStr {t : TypeId} {a b : Operand} {s : List UInt8} {k : IntKind} {i : Int} {x : UInt8} (ht : P.underlying t = some .string) (ha : ρ a = .str s) (hb : ρ b = .int k i) (h0 : 0 ≤ i) (hx : s[i.toNat]? = some x) : evOp P flat nid (.index t a b) ρ = .ret (.int .u8 x.toNat, .none) := by
  simp only [evOp, indexA, ha, hb, ht, hx, pur]
  rw [if_pos h0]
end
def hasS (s : List UInt8) (c : Int) (row : AV) (N : Int) (j : Int) (i : Int) : ST :=
  ⟨RG.of 27 [(15, .int .i64 i), (14, .int .i64 s.length), (9, .int .i64 j), (8, .int .i64 N), (7, row), (5, .int .u8 c), (0, .str s)], ⟨[], []⟩⟩
set_option maxHeartbeats 4000000 in
theorem breaks_two (m : Nat) (from_ : FuncId) (h : H) (s : List UInt8) (tt : Bool) (hl : s.length ≤ 140737488351232) : evCall TE (m + 1) from_ (.fn 60 [] [.vref [(.sl [.int .u8 0, .int .u8 47] 2 tt)] 0]) [.str s] h = some (.ret (.bool (has s 0 || (has s 47 || s == []))), h) := by
  obtain ⟨r, hr⟩ : ∃ r, r = (has s 0 || (has s 47 || s == [])) := ⟨_, rfl⟩
  rw [← hr]
  refine call_clean (fn := Try.f60) rfl Try.func60 rfl rfl rfl rfl rfl (Nat.le_of_ble_eq_true rfl) ?_
  conv => whnf
  (with_reducible refine ⟨(3 : Nat), ?_, ?_⟩; · exact Nat.le_of_ble_eq_true rfl)
  conv => whnf
  refine ⟨s.length + 1, by show s.length + 1 ≤ 4611686018427387904; omega, ?_⟩
  refine rounds_ind (hasS s 0 (.sl [.int .u8 0, .int .u8 47] 2 tt) 2 0) (fun i => 0 ≤ i ∧ i ≤ s.length ∧ has s 0 = has (s.drop i.toNat) 0) (fun i => (s.length - i).toNat) ?_ _ 0 _ ⟨by omega, by omega, rfl⟩ (by omega) (by kernel_rfl)
  intro i m' hI ih
  obtain ⟨hI0, hI1, hI2⟩ := hI
  conv => whnf
  cases h1 : decide (i < (s.length : Int)) with
  | false =>
    have h1 := of_decide_eq_false h1
    have hf0 : has s 0 = false := by rw [hI2, List.drop_eq_nil_of_le (by omega)]; rfl
    clear ih hI0 hI1 hI2 h1
    conv => whnf
    refine ⟨s.length + 1, by show s.length + 1 ≤ 4611686018427387904; omega, ?_⟩
    refine rounds_ind (hasS s 47 (.sl [.int .u8 0, .int .u8 47] 2 tt) 2 1) (fun i => 0 ≤ i ∧ i ≤ s.length ∧ has s 47 = has (s.drop i.toNat) 47) (fun i => (s.length - i).toNat) ?_ _ 0 _ ⟨by omega, by omega, rfl⟩ (by omega) (by kernel_rfl)
    intro i m' hI ih
    obtain ⟨hI0, hI1, hI2⟩ := hI
    conv => whnf
    cases h1 : decide (i < (s.length : Int)) with
    | false =>
      have h1 := of_decide_eq_false h1
      have hf1 : has s 47 = false := by rw [hI2, List.drop_eq_nil_of_le (by omega)]; rfl
      clear ih hI0 hI1 hI2 h1
      conv => whnf
      (rw [hr]; simp_all; done)
    | true =>
      have h1 := of_decide_eq_true h1
      obtain ⟨b, hb⟩ : ∃ b, s[i.toNat]? = some b := ⟨_, List.getElem?_eq_getElem (by omega)⟩
      rw [has_drop hb] at hI2
      have hw : IntKind.wrap .i64 (i + 1) = i + 1 := wrap64 (by omega) (by omega)
      have hmu : (s.length - IntKind.wrap .i64 (i + 1)).toNat < (s.length - i).toNat := by rw [hw]; omega
      have hst : ((b.toNat : Int) == 47) = false → 0 ≤ IntKind.wrap .i64 (i + 1) ∧ IntKind.wrap .i64 (i + 1) ≤ s.length ∧ has s 47 = has (s.drop (IntKind.wrap .i64 (i + 1)).toNat) 47 := by
        intro he
        rw [he, Bool.false_or] at hI2
        rw [hw, show (i + 1).toNat = i.toNat + 1 by omega]
        exact ⟨by omega, by omega, hI2⟩
      have hfa : ((b.toNat : Int) == 47) = true → r = true := by
        intro he
        rw [hr, hI2, he]
        simp
      conv => whnf
      (refine runK_ret (ev_indexStr rfl rfl rfl hI0 hb) ?_)
      conv => whnf
      cases z0 : ↑b.toNat == Int.ofNat 47
      · conv => whnf
        (exact ih (IntKind.wrap .i64 (i + 1)) _ (hst ‹_›) hmu (by kernel_rfl))
      · conv => whnf
        (rw [hfa ‹_›])
  | true =>
    have h1 := of_decide_eq_true h1
    obtain ⟨b, hb⟩ : ∃ b, s[i.toNat]? = some b := ⟨_, List.getElem?_eq_getElem (by omega)⟩
    rw [has_drop hb] at hI2
    have hw : IntKind.wrap .i64 (i + 1) = i + 1 := wrap64 (by omega) (by omega)
    have hmu : (s.length - IntKind.wrap .i64 (i + 1)).toNat < (s.length - i).toNat := by rw [hw]; omega
    have hst : ((b.toNat : Int) == 0) = false → 0 ≤ IntKind.wrap .i64 (i + 1) ∧ IntKind.wrap .i64 (i + 1) ≤ s.length ∧ has s 0 = has (s.drop (IntKind.wrap .i64 (i + 1)).toNat) 0 := by
      intro he
      rw [he, Bool.false_or] at hI2
      rw [hw, show (i + 1).toNat = i.toNat + 1 by omega]
      exact ⟨by omega, by omega, hI2⟩
    have hfa : ((b.toNat : Int) == 0) = true → r = true := by
      intro he
      rw [hr, hI2, he]
      simp
    conv => whnf
    (refine runK_ret (ev_indexStr rfl rfl rfl hI0 hb) ?_)
    conv => whnf
    cases z0 : ↑b.toNat == Int.ofNat 0
    · conv => whnf
      (exact ih (IntKind.wrap .i64 (i + 1)) _ (hst ‹_›) hmu (by kernel_rfl))
    · conv => whnf
      (rw [hfa ‹_›])
set_option maxHeartbeats 4000000 in
theorem breaks_one (m : Nat) (from_ : FuncId) (h : H) (s : List UInt8) (tt : Bool) (hl : s.length ≤ 140737488351232) : evCall TE (m + 1) from_ (.fn 60 [] [.vref [(.sl [.int .u8 0] 1 tt)] 0]) [.str s] h = some (.ret (.bool (has s 0 || s == [])), h) := by
  obtain ⟨r, hr⟩ : ∃ r, r = (has s 0 || s == []) := ⟨_, rfl⟩
  rw [← hr]
  refine call_clean (fn := Try.f60) rfl Try.func60 rfl rfl rfl rfl rfl (Nat.le_of_ble_eq_true rfl) ?_
  conv => whnf
  (with_reducible refine ⟨(2 : Nat), ?_, ?_⟩; · exact Nat.le_of_ble_eq_true rfl)
  conv => whnf
  refine ⟨s.length + 1, by show s.length + 1 ≤ 4611686018427387904; omega, ?_⟩
  refine rounds_ind (hasS s 0 (.sl [.int .u8 0] 1 tt) 1 0) (fun i => 0 ≤ i ∧ i ≤ s.length ∧ has s 0 = has (s.drop i.toNat) 0) (fun i => (s.length - i).toNat) ?_ _ 0 _ ⟨by omega, by omega, rfl⟩ (by omega) (by kernel_rfl)
  intro i m' hI ih
  obtain ⟨hI0, hI1, hI2⟩ := hI
  conv => whnf
  cases h1 : decide (i < (s.length : Int)) with
  | false =>
    have h1 := of_decide_eq_false h1
    have hf0 : has s 0 = false := by rw [hI2, List.drop_eq_nil_of_le (by omega)]; rfl
    clear ih hI0 hI1 hI2 h1
    conv => whnf
    (rw [hr]; simp_all; done)
  | true =>
    have h1 := of_decide_eq_true h1
    obtain ⟨b, hb⟩ : ∃ b, s[i.toNat]? = some b := ⟨_, List.getElem?_eq_getElem (by omega)⟩
    rw [has_drop hb] at hI2
    have hw : IntKind.wrap .i64 (i + 1) = i + 1 := wrap64 (by omega) (by omega)
    have hmu : (s.length - IntKind.wrap .i64 (i + 1)).toNat < (s.length - i).toNat := by rw [hw]; omega
    have hst : ((b.toNat : Int) == 0) = false → 0 ≤ IntKind.wrap .i64 (i + 1) ∧ IntKind.wrap .i64 (i + 1) ≤ s.length ∧ has s 0 = has (s.drop (IntKind.wrap .i64 (i + 1)).toNat) 0 := by
      intro he
      rw [he, Bool.false_or] at hI2
      rw [hw, show (i + 1).toNat = i.toNat + 1 by omega]
      exact ⟨by omega, by omega, hI2⟩
    have hfa : ((b.toNat : Int) == 0) = true → r = true := by
      intro he
      rw [hr, hI2, he]
      simp
    conv => whnf
    (refine runK_ret (ev_indexStr rfl rfl rfl hI0 hb) ?_)
    conv => whnf
    cases z0 : ↑b.toNat == Int.ofNat 0
    · conv => whnf
      (exact ih (IntKind.wrap .i64 (i + 1)) _ (hst ‹_›) hmu (by kernel_rfl))
    · conv => whnf
      (rw [hfa ‹_›])
end Go.Proofs.Ytlglhnadalbddaa.Ab
/- Over the engine: names, paths; what nodes of a kind have. -/
namespace Go.Proofs.Ytlglhnadalbddaa.Ab
open Go Go.RowKit

set_option maxRecDepth 100000
def ruleA (row : AV) (most : Int) : AV := .agg [.fn 60 [] [.vref [row] 0], .int .u32 22, .fn 61 [] [.vref [.int .i64 most] 0], .int .u32 63]
theorem longer_c (m : Nat) (from_ : FuncId) (h : H) (s : List UInt8) (most : Int) : evCall TE (m + 1) from_ (.fn 61 [] [.vref [.int .i64 most] 0]) [.str s] h = some (.ret (.bool (decide ((s.length : Int) > most))), h) := by
  refine call_clean (fn := Try.f61) rfl Try.func61 rfl rfl rfl rfl rfl (Nat.le_of_ble_eq_true rfl) ?_
  conv => whnf
def nameSt (s : List UInt8) : Int := if (has s 0 || (has s 47 || s == [])) = true then 22 else if decide ((s.length : Int) > 255) = true then 63 else 0
def pathSt (s : List UInt8) : Int := if (has s 0 || s == []) = true then 22 else if decide ((s.length : Int) > 1024) = true then 63 else 0
theorem is_name (m : Nat) (from_ : FuncId) (h : H) (s : List UInt8) (hl : s.length ≤ 140737488351232) : evCall TE (m + 2) from_ (.fn 53 [] []) [.str s, ruleA (.sl [.int .u8 0, .int .u8 47] 2 true) 255] h = some (.ret (.int .u32 (nameSt s)), h) := by
  have c1 : ∀ (f : FuncId) (h : H), (evAll TE (m + 1)).1 f (.fn 60 [] [.vref [.sl [.int .u8 0, .int .u8 47] 2 true] 0]) [.str s] h = some (.ret (.bool (has s 0 || (has s 47 || s == []))), h) := fun f h => breaks_two m f h s true hl
  have c2 : ∀ (f : FuncId) (h : H), (evAll TE (m + 1)).1 f (.fn 61 [] [.vref [.int .i64 255] 0]) [.str s] h = some (.ret (.bool (decide ((s.length : Int) > 255))), h) := fun f h => longer_c m f h s 255
  obtain ⟨r, hr⟩ : ∃ r, r = nameSt s := ⟨_, rfl⟩
  rw [← hr]
  unfold nameSt at hr
  generalize (has s 0 || (has s 47 || s == [])) = q1 at c1 hr
  generalize decide ((s.length : Int) > 255) = q2 at c2 hr
  unfold ruleA
  refine call_clean (fn := Try.f53) rfl Try.func53 rfl rfl rfl rfl rfl (Nat.le_of_ble_eq_true rfl) ?_
  conv => whnf
  (with_reducible refine ⟨(3 : Nat), ?_, ?_⟩; · exact Nat.le_of_ble_eq_true rfl)
  conv => whnf
  with_reducible refine ⟨_, _, c1 _ _, ?_⟩
  conv => whnf
  cases q1
  · conv => whnf
    with_reducible refine ⟨_, _, c2 _ _, ?_⟩
    conv => whnf
    cases q2
    · conv => whnf
      (rw [hr]; simp_all; done)
    · conv => whnf
      (rw [hr]; simp_all; done)
  · conv => whnf
    (rw [hr]; simp_all; done)
theorem without_name (m : Nat) (from_ : FuncId) : evCall TE (m + 2) from_ (.fn 54 [] []) [.int .i64 255, .rsl 0 0 2 (some 2) 0] ⟨[.cells [.int .u8 0, .int .u8 47] ⟨false, 1, false, true⟩], []⟩ = some (.ret (ruleA (.sl [.int .u8 0, .int .u8 47] 2 true) 255), ⟨[.cells [.int .u8 0, .int .u8 47] ⟨true, 1, false, false⟩], []⟩) := by
  skip
  kernel_rfl
theorem is_path (m : Nat) (from_ : FuncId) (h : H) (s : List UInt8) (hl : s.length ≤ 140737488351232) : evCall TE (m + 2) from_ (.fn 53 [] []) [.str s, ruleA (.sl [.int .u8 0] 1 true) 1024] h = some (.ret (.int .u32 (pathSt s)), h) := by
  have c1 : ∀ (f : FuncId) (h : H), (evAll TE (m + 1)).1 f (.fn 60 [] [.vref [.sl [.int .u8 0] 1 true] 0]) [.str s] h = some (.ret (.bool (has s 0 || s == [])), h) := fun f h => breaks_one m f h s true hl
  have c2 : ∀ (f : FuncId) (h : H), (evAll TE (m + 1)).1 f (.fn 61 [] [.vref [.int .i64 1024] 0]) [.str s] h = some (.ret (.bool (decide ((s.length : Int) > 1024))), h) := fun f h => longer_c m f h s 1024
  obtain ⟨r, hr⟩ : ∃ r, r = pathSt s := ⟨_, rfl⟩
  rw [← hr]
  unfold pathSt at hr
  generalize (has s 0 || s == []) = q1 at c1 hr
  generalize decide ((s.length : Int) > 1024) = q2 at c2 hr
  unfold ruleA
  refine call_clean (fn := Try.f53) rfl Try.func53 rfl rfl rfl rfl rfl (Nat.le_of_ble_eq_true rfl) ?_
  conv => whnf
  (with_reducible refine ⟨(3 : Nat), ?_, ?_⟩; · exact Nat.le_of_ble_eq_true rfl)
  conv => whnf
  with_reducible refine ⟨_, _, c1 _ _, ?_⟩
  conv => whnf
  cases q1
  · conv => whnf
    with_reducible refine ⟨_, _, c2 _ _, ?_⟩
    conv => whnf
    cases q2
    · conv => whnf
      (rw [hr]; simp_all; done)
    · conv => whnf
      (rw [hr]; simp_all; done)
  · conv => whnf
    (rw [hr]; simp_all; done)
theorem without_path (m : Nat) (from_ : FuncId) : evCall TE (m + 2) from_ (.fn 54 [] []) [.int .i64 1024, .rsl 0 0 1 (some 1) 0] ⟨[.cells [.int .u8 0] ⟨false, 1, false, true⟩], []⟩ = some (.ret (ruleA (.sl [.int .u8 0] 1 true) 1024), ⟨[.cells [.int .u8 0] ⟨true, 1, false, false⟩], []⟩) := by
  skip
  kernel_rfl
theorem name_c (m : Nat) (from_ : FuncId) (h : H) (s : List UInt8) (hl : s.length ≤ 140737488351232) : evCall TE (m + 4) from_ (.fn 42 [] []) [.str s] h = some (.ret (.int .u32 (nameSt s)), h) := by
  have c1 : ∀ (f : FuncId), (evAll TE (m + 3)).1 f (.fn 54 [] []) [.int .i64 255, .rsl 0 0 2 (some 2) 0] ⟨[.cells [.int .u8 0, .int .u8 47] ⟨false, 1, false, true⟩], []⟩ = some (.ret (ruleA (.sl [.int .u8 0, .int .u8 47] 2 true) 255), ⟨[.cells [.int .u8 0, .int .u8 47] ⟨true, 1, false, false⟩], []⟩) := fun f => without_name (m + 1) f
  have c2 : ∀ (f : FuncId) (h : H), (evAll TE (m + 3)).1 f (.fn 53 [] []) [.str s, ruleA (.sl [.int .u8 0, .int .u8 47] 2 true) 255] h = some (.ret (.int .u32 (nameSt s)), h) := fun f h => is_name (m + 1) f h s hl
  generalize nameSt s = r at c2 ⊢
  unfold ruleA at c1 c2
  refine call_clean (fn := Try.f42) rfl Try.func42 rfl rfl rfl rfl rfl (Nat.le_of_ble_eq_true rfl) ?_
  conv => whnf
  (refine ⟨_, _, c1 _, ?_⟩)
  conv => whnf
  with_reducible refine ⟨_, _, c2 _ _, ?_⟩
  conv => whnf
theorem path_c (m : Nat) (from_ : FuncId) (h : H) (s : List UInt8) (hl : s.length ≤ 140737488351232) : evCall TE (m + 4) from_ (.fn 40 [] []) [.str s] h = some (.ret (.int .u32 (pathSt s)), h) := by
  have c1 : ∀ (f : FuncId), (evAll TE (m + 3)).1 f (.fn 54 [] []) [.int .i64 1024, .rsl 0 0 1 (some 1) 0] ⟨[.cells [.int .u8 0] ⟨false, 1, false, true⟩], []⟩ = some (.ret (ruleA (.sl [.int .u8 0] 1 true) 1024), ⟨[.cells [.int .u8 0] ⟨true, 1, false, false⟩], []⟩) := fun f => without_path (m + 1) f
  have c2 : ∀ (f : FuncId) (h : H), (evAll TE (m + 3)).1 f (.fn 53 [] []) [.str s, ruleA (.sl [.int .u8 0] 1 true) 1024] h = some (.ret (.int .u32 (pathSt s)), h) := fun f h => is_path (m + 1) f h s hl
  generalize pathSt s = r at c2 ⊢
  unfold ruleA at c1 c2
  refine call_clean (fn := Try.f40) rfl Try.func40 rfl rfl rfl rfl rfl (Nat.le_of_ble_eq_true rfl) ?_
  conv => whnf
  (refine ⟨_, _, c1 _, ?_⟩)
  conv => whnf
  with_reducible refine ⟨_, _, c2 _ _, ?_⟩
  conv => whnf
theorem is_c (m : Nat) (from_ : FuncId) (h : H) (ns : List NodeS) (t : Bool) (gen n k : Int) : evCall TE (m + 2) from_ (.fn 12 [] []) [.agg [.sl (nodesA ns) ns.length t, .int .u32 gen], .int .i64 n, .int .u32 k] h = some (.ret (.bool (thereS ns n && kindS ns n == k)), h) := by
  have c1 : ∀ (f : FuncId) (h : H), (evAll TE (m + 1)).1 f (.fn 13 [] []) [.agg [.sl (nodesA ns) ns.length t, .int .u32 gen], .int .i64 n] h = some (.ret (.bool (thereS ns n)), h) := fun f h => there_c m f h _ ns (.inr ⟨t, rfl⟩) gen n
  cases hn : thereS ns n with
  | false =>
    rw [hn] at c1
    refine call_clean (fn := Try.f12) rfl Try.func12 rfl rfl rfl rfl rfl (Nat.le_of_ble_eq_true rfl) ?_
    conv => whnf
    with_reducible refine ⟨_, _, c1 _ _, ?_⟩
    conv => whnf
    rfl
  | true =>
    rw [hn] at c1
    have hn2 := hn
    unfold thereS at hn2
    rw [Bool.and_eq_true, Bool.and_eq_true, decide_eq_true_eq, decide_eq_true_eq] at hn2
    have hn0 : 0 ≤ n := by omega
    have hn1 := hn2.2.1
    obtain ⟨x, hx⟩ : ∃ x, ns[n.toNat]? = some x := ⟨_, List.getElem?_eq_getElem (by omega)⟩
    have hk : kindS ns n = x.kind := by unfold kindS; rw [hx]
    rw [hk]
    refine call_clean (fn := Try.f12) rfl Try.func12 rfl rfl rfl rfl rfl (Nat.le_of_ble_eq_true rfl) ?_
    conv => whnf
    with_reducible refine ⟨_, _, c1 _ _, ?_⟩
    conv => whnf
    (refine runK_ret (ev_indexSl (sz := 25) rfl rfl rfl rfl hn0 hn1) ?_)
    conv => whnf
    (refine runK_ret (ev_loadV (z := 1) rfl rfl rfl ((nodesA_cell hx 0 (by decide)).trans rfl)) ?_)
    conv => whnf
    rfl
def zeroVerf (x : NodeS) : Bool := x.verf 0 == 0 && (x.verf 1 == 0 && (x.verf 2 == 0 && (x.verf 3 == 0 && (x.verf 4 == 0 && (x.verf 5 == 0 && (x.verf 6 == 0 && (x.verf 7 == 0 && true)))))))
def fileO (x : NodeS) : Bool := ((x.bytes.length : Int) == 0) && zeroVerf x
def listO (x : NodeS) : Bool := ((x.ents.length : Int) == 0) && (x.parent == 0 && x.next == 0)
def onlyS (x : NodeS) : Bool :=
  if (x.kind == 0) = true then fileO x && (x.target == [] && (listO x && ((bor .u32 (bor .u32 (bor .u32 x.gen x.mode) x.user) x.group == 0) && (x.links == 0 && ((x.rs == 0 && (x.rn == 0 && true)) && ((x.ws == 0 && (x.wn == 0 && true)) && (x.ts == 0 && (x.tn == 0 && true))))))))
  else if (x.kind == 1) = true then x.target == [] && (listO x && decide ((x.bytes.length : Int) ≤ 65536))
  else if (x.kind == 5) = true then fileO x && (listO x && pathSt x.target == 0)
  else x.kind == 2 && (fileO x && x.target == [])
set_option maxHeartbeats 8000000 in
theorem only_c (m : Nat) (from_ : FuncId) (h : H) (x : NodeS) (hx : x.ok) (hl : x.target.length ≤ 140737488351232) : evCall TE (m + 5) from_ (.fn 16 [] []) [.agg (nodeA x)] h = some (.ret (.bool (onlyS x)), h) := by
  have c1 : ∀ (f : FuncId) (h : H), (evAll TE (m + 4)).1 f (.fn 40 [] []) [.str x.target] h = some (.ret (.int .u32 (pathSt x.target)), h) := fun f h => path_c m f h x.target hl
  obtain ⟨r, hr⟩ : ∃ r, r = onlyS x := ⟨_, rfl⟩
  rw [← hr]
  unfold onlyS at hr
  obtain ⟨qp, hqp⟩ : ∃ q, q = pathSt x.target := ⟨_, rfl⟩
  rw [← hqp] at c1 hr
  clear hqp hl
  unfold fileO listO zeroVerf bor at hr
  obtain ⟨kd, ge, mo, us, ng, li, xrs, xrn, xws, xwn, ts, tn, da, by_, vf, ta, ls, es, pa, nx⟩ := x
  simp only [NodeS.ok, rowOk, entsOk] at hx
  obtain ⟨hd, hl⟩ := hx
  dsimp only at c1 hr
  rcases hd with ⟨rfl, rfl⟩ | ⟨dt, rfl⟩ <;> rcases hl with ⟨rfl, rfl⟩ | ⟨lt, rfl⟩
  all_goals refine call_clean (fn := Try.f16) rfl Try.func16 rfl rfl rfl rfl rfl (Nat.le_of_ble_eq_true rfl) ?_
  · conv => whnf
    cases z0 : pa == Int.ofNat 0
    · conv => whnf
      cases z1 : kd == Int.ofNat 0
      · conv => whnf
        cases z2 : kd == Int.ofNat 1
        · conv => whnf
          cases z3 : kd == Int.ofNat 5
          · conv => whnf
            cases z4 : kd == Int.ofNat 2
            · conv => whnf
              (rw [hr]; simp_all; done)
            · conv => whnf
              cases z5 :   vf 0 == Int.ofNat 0 &&     (vf 1 == Int.ofNat 0 &&       (vf 2 == Int.ofNat 0 &&         (vf 3 == Int.ofNat 0 &&           (vf 4 == Int.ofNat 0 && (vf 5 == Int.ofNat 0 && (vf 6 == Int.ofNat 0 && (vf 7 == Int.ofNat 0 && true)))))))
              · conv => whnf
                (rw [hr]; simp_all; done)
              · conv => whnf
                (rw [hr]; simp_all; done)
          · conv => whnf
            cases z6 :   vf 0 == Int.ofNat 0 &&     (vf 1 == Int.ofNat 0 &&       (vf 2 == Int.ofNat 0 &&         (vf 3 == Int.ofNat 0 &&           (vf 4 == Int.ofNat 0 && (vf 5 == Int.ofNat 0 && (vf 6 == Int.ofNat 0 && (vf 7 == Int.ofNat 0 && true)))))))
            · conv => whnf
              (rw [hr]; simp_all; done)
            · conv => whnf
              (rw [hr]; simp_all; done)
        · conv => whnf
          cases z7 : ta == []
          · conv => whnf
            (rw [hr]; simp_all; done)
          · conv => whnf
            (rw [hr]; simp_all; done)
      · conv => whnf
        cases z8 :   vf 0 == Int.ofNat 0 &&     (vf 1 == Int.ofNat 0 &&       (vf 2 == Int.ofNat 0 &&         (vf 3 == Int.ofNat 0 &&           (vf 4 == Int.ofNat 0 && (vf 5 == Int.ofNat 0 && (vf 6 == Int.ofNat 0 && (vf 7 == Int.ofNat 0 && true)))))))
        · conv => whnf
          (rw [hr]; simp_all; done)
        · conv => whnf
          cases z9 : ta == []
          · conv => whnf
            (rw [hr]; simp_all; done)
          · conv => whnf
            (rw [hr]; simp_all; done)
    · conv => whnf
      cases z10 : kd == Int.ofNat 0
      · conv => whnf
        cases z11 : kd == Int.ofNat 1
        · conv => whnf
          cases z12 : kd == Int.ofNat 5
          · conv => whnf
            cases z13 : kd == Int.ofNat 2
            · conv => whnf
              (rw [hr]; simp_all; done)
            · conv => whnf
              cases z14 :   vf 0 == Int.ofNat 0 &&     (vf 1 == Int.ofNat 0 &&       (vf 2 == Int.ofNat 0 &&         (vf 3 == Int.ofNat 0 &&           (vf 4 == Int.ofNat 0 && (vf 5 == Int.ofNat 0 && (vf 6 == Int.ofNat 0 && (vf 7 == Int.ofNat 0 && true)))))))
              · conv => whnf
                (rw [hr]; simp_all; done)
              · conv => whnf
                (rw [hr]; simp_all; done)
          · conv => whnf
            cases z15 :   vf 0 == Int.ofNat 0 &&     (vf 1 == Int.ofNat 0 &&       (vf 2 == Int.ofNat 0 &&         (vf 3 == Int.ofNat 0 &&           (vf 4 == Int.ofNat 0 && (vf 5 == Int.ofNat 0 && (vf 6 == Int.ofNat 0 && (vf 7 == Int.ofNat 0 && true)))))))
            · conv => whnf
              (rw [hr]; simp_all; done)
            · conv => whnf
              cases z16 : nx == Int.ofNat 0
              · conv => whnf
                (rw [hr]; simp_all; done)
              · conv => whnf
                with_reducible refine ⟨_, _, c1 _ _, ?_⟩
                conv => whnf
                (rw [hr]; simp_all; done)
        · conv => whnf
          cases z17 : ta == []
          · conv => whnf
            (rw [hr]; simp_all; done)
          · conv => whnf
            cases z18 : nx == Int.ofNat 0
            · conv => whnf
              (rw [hr]; simp_all; done)
            · conv => whnf
              (rw [hr]; simp_all; done)
      · conv => whnf
        cases z19 :   vf 0 == Int.ofNat 0 &&     (vf 1 == Int.ofNat 0 &&       (vf 2 == Int.ofNat 0 &&         (vf 3 == Int.ofNat 0 &&           (vf 4 == Int.ofNat 0 && (vf 5 == Int.ofNat 0 && (vf 6 == Int.ofNat 0 && (vf 7 == Int.ofNat 0 && true)))))))
        · conv => whnf
          (rw [hr]; simp_all; done)
        · conv => whnf
          cases z20 : ta == []
          · conv => whnf
            (rw [hr]; simp_all; done)
          · conv => whnf
            cases z21 : nx == Int.ofNat 0
            · conv => whnf
              (rw [hr]; simp_all; done)
            · conv => whnf
              cases z22 :   IntKind.u32.wrap       ↑(BitVec.ofInt IntKind.u32.bits               (IntKind.u32.wrap                 ↑(BitVec.ofInt IntKind.u32.bits                         (IntKind.u32.wrap                           ↑(BitVec.ofInt IntKind.u32.bits ge ||| BitVec.ofInt IntKind.u32.bits mo).toNat) |||                       BitVec.ofInt IntKind.u32.bits us).toNat) |||             BitVec.ofInt IntKind.u32.bits ng).toNat ==     Int.ofNat 0
              · conv => whnf
                (rw [hr]; simp_all; done)
              · conv => whnf
                cases z23 : li == Int.ofNat 0
                · conv => whnf
                  (rw [hr]; simp_all; done)
                · conv => whnf
                  cases z24 : xrs == Int.ofNat 0 && (xrn == Int.ofNat 0 && true)
                  · conv => whnf
                    (rw [hr]; simp_all; done)
                  · conv => whnf
                    cases z25 : xws == Int.ofNat 0 && (xwn == Int.ofNat 0 && true)
                    · conv => whnf
                      (rw [hr]; simp_all; done)
                    · conv => whnf
                      (rw [hr]; simp_all; done)
  · conv => whnf
    cases z0 : ↑es.length == Int.ofNat 0
    · conv => whnf
      cases z1 : kd == Int.ofNat 0
      · conv => whnf
        cases z2 : kd == Int.ofNat 1
        · conv => whnf
          cases z3 : kd == Int.ofNat 5
          · conv => whnf
            cases z4 : kd == Int.ofNat 2
            · conv => whnf
              (rw [hr]; simp_all; done)
            · conv => whnf
              cases z5 :   vf 0 == Int.ofNat 0 &&     (vf 1 == Int.ofNat 0 &&       (vf 2 == Int.ofNat 0 &&         (vf 3 == Int.ofNat 0 &&           (vf 4 == Int.ofNat 0 && (vf 5 == Int.ofNat 0 && (vf 6 == Int.ofNat 0 && (vf 7 == Int.ofNat 0 && true)))))))
              · conv => whnf
                (rw [hr]; simp_all; done)
              · conv => whnf
                (rw [hr]; simp_all; done)
          · conv => whnf
            cases z6 :   vf 0 == Int.ofNat 0 &&     (vf 1 == Int.ofNat 0 &&       (vf 2 == Int.ofNat 0 &&         (vf 3 == Int.ofNat 0 &&           (vf 4 == Int.ofNat 0 && (vf 5 == Int.ofNat 0 && (vf 6 == Int.ofNat 0 && (vf 7 == Int.ofNat 0 && true)))))))
            · conv => whnf
              (rw [hr]; simp_all; done)
            · conv => whnf
              (rw [hr]; simp_all; done)
        · conv => whnf
          cases z7 : ta == []
          · conv => whnf
            (rw [hr]; simp_all; done)
          · conv => whnf
            (rw [hr]; simp_all; done)
      · conv => whnf
        cases z8 :   vf 0 == Int.ofNat 0 &&     (vf 1 == Int.ofNat 0 &&       (vf 2 == Int.ofNat 0 &&         (vf 3 == Int.ofNat 0 &&           (vf 4 == Int.ofNat 0 && (vf 5 == Int.ofNat 0 && (vf 6 == Int.ofNat 0 && (vf 7 == Int.ofNat 0 && true)))))))
        · conv => whnf
          (rw [hr]; simp_all; done)
        · conv => whnf
          cases z9 : ta == []
          · conv => whnf
            (rw [hr]; simp_all; done)
          · conv => whnf
            (rw [hr]; simp_all; done)
    · conv => whnf
      cases z10 : pa == Int.ofNat 0
      · conv => whnf
        cases z11 : kd == Int.ofNat 0
        · conv => whnf
          cases z12 : kd == Int.ofNat 1
          · conv => whnf
            cases z13 : kd == Int.ofNat 5
            · conv => whnf
              cases z14 : kd == Int.ofNat 2
              · conv => whnf
                (rw [hr]; simp_all; done)
              · conv => whnf
                cases z15 :   vf 0 == Int.ofNat 0 &&     (vf 1 == Int.ofNat 0 &&       (vf 2 == Int.ofNat 0 &&         (vf 3 == Int.ofNat 0 &&           (vf 4 == Int.ofNat 0 && (vf 5 == Int.ofNat 0 && (vf 6 == Int.ofNat 0 && (vf 7 == Int.ofNat 0 && true)))))))
                · conv => whnf
                  (rw [hr]; simp_all; done)
                · conv => whnf
                  (rw [hr]; simp_all; done)
            · conv => whnf
              cases z16 :   vf 0 == Int.ofNat 0 &&     (vf 1 == Int.ofNat 0 &&       (vf 2 == Int.ofNat 0 &&         (vf 3 == Int.ofNat 0 &&           (vf 4 == Int.ofNat 0 && (vf 5 == Int.ofNat 0 && (vf 6 == Int.ofNat 0 && (vf 7 == Int.ofNat 0 && true)))))))
              · conv => whnf
                (rw [hr]; simp_all; done)
              · conv => whnf
                (rw [hr]; simp_all; done)
          · conv => whnf
            cases z17 : ta == []
            · conv => whnf
              (rw [hr]; simp_all; done)
            · conv => whnf
              (rw [hr]; simp_all; done)
        · conv => whnf
          cases z18 :   vf 0 == Int.ofNat 0 &&     (vf 1 == Int.ofNat 0 &&       (vf 2 == Int.ofNat 0 &&         (vf 3 == Int.ofNat 0 &&           (vf 4 == Int.ofNat 0 && (vf 5 == Int.ofNat 0 && (vf 6 == Int.ofNat 0 && (vf 7 == Int.ofNat 0 && true)))))))
          · conv => whnf
            (rw [hr]; simp_all; done)
          · conv => whnf
            cases z19 : ta == []
            · conv => whnf
              (rw [hr]; simp_all; done)
            · conv => whnf
              (rw [hr]; simp_all; done)
      · conv => whnf
        cases z20 : kd == Int.ofNat 0
        · conv => whnf
          cases z21 : kd == Int.ofNat 1
          · conv => whnf
            cases z22 : kd == Int.ofNat 5
            · conv => whnf
              cases z23 : kd == Int.ofNat 2
              · conv => whnf
                (rw [hr]; simp_all; done)
              · conv => whnf
                cases z24 :   vf 0 == Int.ofNat 0 &&     (vf 1 == Int.ofNat 0 &&       (vf 2 == Int.ofNat 0 &&         (vf 3 == Int.ofNat 0 &&           (vf 4 == Int.ofNat 0 && (vf 5 == Int.ofNat 0 && (vf 6 == Int.ofNat 0 && (vf 7 == Int.ofNat 0 && true)))))))
                · conv => whnf
                  (rw [hr]; simp_all; done)
                · conv => whnf
                  (rw [hr]; simp_all; done)
            · conv => whnf
              cases z25 :   vf 0 == Int.ofNat 0 &&     (vf 1 == Int.ofNat 0 &&       (vf 2 == Int.ofNat 0 &&         (vf 3 == Int.ofNat 0 &&           (vf 4 == Int.ofNat 0 && (vf 5 == Int.ofNat 0 && (vf 6 == Int.ofNat 0 && (vf 7 == Int.ofNat 0 && true)))))))
              · conv => whnf
                (rw [hr]; simp_all; done)
              · conv => whnf
                cases z26 : nx == Int.ofNat 0
                · conv => whnf
                  (rw [hr]; simp_all; done)
                · conv => whnf
                  with_reducible refine ⟨_, _, c1 _ _, ?_⟩
                  conv => whnf
                  (rw [hr]; simp_all; done)
          · conv => whnf
            cases z27 : ta == []
            · conv => whnf
              (rw [hr]; simp_all; done)
            · conv => whnf
              cases z28 : nx == Int.ofNat 0
              · conv => whnf
                (rw [hr]; simp_all; done)
              · conv => whnf
                (rw [hr]; simp_all; done)
        · conv => whnf
          cases z29 :   vf 0 == Int.ofNat 0 &&     (vf 1 == Int.ofNat 0 &&       (vf 2 == Int.ofNat 0 &&         (vf 3 == Int.ofNat 0 &&           (vf 4 == Int.ofNat 0 && (vf 5 == Int.ofNat 0 && (vf 6 == Int.ofNat 0 && (vf 7 == Int.ofNat 0 && true)))))))
          · conv => whnf
            (rw [hr]; simp_all; done)
          · conv => whnf
            cases z30 : ta == []
            · conv => whnf
              (rw [hr]; simp_all; done)
            · conv => whnf
              cases z31 : nx == Int.ofNat 0
              · conv => whnf
                (rw [hr]; simp_all; done)
              · conv => whnf
                cases z32 :   IntKind.u32.wrap       ↑(BitVec.ofInt IntKind.u32.bits               (IntKind.u32.wrap                 ↑(BitVec.ofInt IntKind.u32.bits                         (IntKind.u32.wrap                           ↑(BitVec.ofInt IntKind.u32.bits ge ||| BitVec.ofInt IntKind.u32.bits mo).toNat) |||                       BitVec.ofInt IntKind.u32.bits us).toNat) |||             BitVec.ofInt IntKind.u32.bits ng).toNat ==     Int.ofNat 0
                · conv => whnf
                  (rw [hr]; simp_all; done)
                · conv => whnf
                  cases z33 : li == Int.ofNat 0
                  · conv => whnf
                    (rw [hr]; simp_all; done)
                  · conv => whnf
                    cases z34 : xrs == Int.ofNat 0 && (xrn == Int.ofNat 0 && true)
                    · conv => whnf
                      (rw [hr]; simp_all; done)
                    · conv => whnf
                      cases z35 : xws == Int.ofNat 0 && (xwn == Int.ofNat 0 && true)
                      · conv => whnf
                        (rw [hr]; simp_all; done)
                      · conv => whnf
                        (rw [hr]; simp_all; done)
  · conv => whnf
    cases z0 : ↑by_.length == Int.ofNat 0
    · conv => whnf
      cases z1 : pa == Int.ofNat 0
      · conv => whnf
        cases z2 : kd == Int.ofNat 0
        · conv => whnf
          cases z3 : kd == Int.ofNat 1
          · conv => whnf
            cases z4 : kd == Int.ofNat 5
            · conv => whnf
              cases z5 : kd == Int.ofNat 2
              · conv => whnf
                (rw [hr]; simp_all; done)
              · conv => whnf
                (rw [hr]; simp_all; done)
            · conv => whnf
              (rw [hr]; simp_all; done)
          · conv => whnf
            cases z6 : ta == []
            · conv => whnf
              (rw [hr]; simp_all; done)
            · conv => whnf
              (rw [hr]; simp_all; done)
        · conv => whnf
          (rw [hr]; simp_all; done)
      · conv => whnf
        cases z7 : kd == Int.ofNat 0
        · conv => whnf
          cases z8 : kd == Int.ofNat 1
          · conv => whnf
            cases z9 : kd == Int.ofNat 5
            · conv => whnf
              cases z10 : kd == Int.ofNat 2
              · conv => whnf
                (rw [hr]; simp_all; done)
              · conv => whnf
                (rw [hr]; simp_all; done)
            · conv => whnf
              (rw [hr]; simp_all; done)
          · conv => whnf
            cases z11 : ta == []
            · conv => whnf
              (rw [hr]; simp_all; done)
            · conv => whnf
              cases z12 : nx == Int.ofNat 0
              · conv => whnf
                (rw [hr]; simp_all; done)
              · conv => whnf
                (rw [hr]; simp_all; done)
        · conv => whnf
          (rw [hr]; simp_all; done)
    · conv => whnf
      cases z13 : pa == Int.ofNat 0
      · conv => whnf
        cases z14 : kd == Int.ofNat 0
        · conv => whnf
          cases z15 : kd == Int.ofNat 1
          · conv => whnf
            cases z16 : kd == Int.ofNat 5
            · conv => whnf
              cases z17 : kd == Int.ofNat 2
              · conv => whnf
                (rw [hr]; simp_all; done)
              · conv => whnf
                cases z18 :   vf 0 == Int.ofNat 0 &&     (vf 1 == Int.ofNat 0 &&       (vf 2 == Int.ofNat 0 &&         (vf 3 == Int.ofNat 0 &&           (vf 4 == Int.ofNat 0 && (vf 5 == Int.ofNat 0 && (vf 6 == Int.ofNat 0 && (vf 7 == Int.ofNat 0 && true)))))))
                · conv => whnf
                  (rw [hr]; simp_all; done)
                · conv => whnf
                  (rw [hr]; simp_all; done)
            · conv => whnf
              cases z19 :   vf 0 == Int.ofNat 0 &&     (vf 1 == Int.ofNat 0 &&       (vf 2 == Int.ofNat 0 &&         (vf 3 == Int.ofNat 0 &&           (vf 4 == Int.ofNat 0 && (vf 5 == Int.ofNat 0 && (vf 6 == Int.ofNat 0 && (vf 7 == Int.ofNat 0 && true)))))))
              · conv => whnf
                (rw [hr]; simp_all; done)
              · conv => whnf
                (rw [hr]; simp_all; done)
          · conv => whnf
            cases z20 : ta == []
            · conv => whnf
              (rw [hr]; simp_all; done)
            · conv => whnf
              (rw [hr]; simp_all; done)
        · conv => whnf
          cases z21 :   vf 0 == Int.ofNat 0 &&     (vf 1 == Int.ofNat 0 &&       (vf 2 == Int.ofNat 0 &&         (vf 3 == Int.ofNat 0 &&           (vf 4 == Int.ofNat 0 && (vf 5 == Int.ofNat 0 && (vf 6 == Int.ofNat 0 && (vf 7 == Int.ofNat 0 && true)))))))
          · conv => whnf
            (rw [hr]; simp_all; done)
          · conv => whnf
            cases z22 : ta == []
            · conv => whnf
              (rw [hr]; simp_all; done)
            · conv => whnf
              (rw [hr]; simp_all; done)
      · conv => whnf
        cases z23 : kd == Int.ofNat 0
        · conv => whnf
          cases z24 : kd == Int.ofNat 1
          · conv => whnf
            cases z25 : kd == Int.ofNat 5
            · conv => whnf
              cases z26 : kd == Int.ofNat 2
              · conv => whnf
                (rw [hr]; simp_all; done)
              · conv => whnf
                cases z27 :   vf 0 == Int.ofNat 0 &&     (vf 1 == Int.ofNat 0 &&       (vf 2 == Int.ofNat 0 &&         (vf 3 == Int.ofNat 0 &&           (vf 4 == Int.ofNat 0 && (vf 5 == Int.ofNat 0 && (vf 6 == Int.ofNat 0 && (vf 7 == Int.ofNat 0 && true)))))))
                · conv => whnf
                  (rw [hr]; simp_all; done)
                · conv => whnf
                  (rw [hr]; simp_all; done)
            · conv => whnf
              cases z28 :   vf 0 == Int.ofNat 0 &&     (vf 1 == Int.ofNat 0 &&       (vf 2 == Int.ofNat 0 &&         (vf 3 == Int.ofNat 0 &&           (vf 4 == Int.ofNat 0 && (vf 5 == Int.ofNat 0 && (vf 6 == Int.ofNat 0 && (vf 7 == Int.ofNat 0 && true)))))))
              · conv => whnf
                (rw [hr]; simp_all; done)
              · conv => whnf
                cases z29 : nx == Int.ofNat 0
                · conv => whnf
                  (rw [hr]; simp_all; done)
                · conv => whnf
                  with_reducible refine ⟨_, _, c1 _ _, ?_⟩
                  conv => whnf
                  (rw [hr]; simp_all; done)
          · conv => whnf
            cases z30 : ta == []
            · conv => whnf
              (rw [hr]; simp_all; done)
            · conv => whnf
              cases z31 : nx == Int.ofNat 0
              · conv => whnf
                (rw [hr]; simp_all; done)
              · conv => whnf
                (rw [hr]; simp_all; done)
        · conv => whnf
          cases z32 :   vf 0 == Int.ofNat 0 &&     (vf 1 == Int.ofNat 0 &&       (vf 2 == Int.ofNat 0 &&         (vf 3 == Int.ofNat 0 &&           (vf 4 == Int.ofNat 0 && (vf 5 == Int.ofNat 0 && (vf 6 == Int.ofNat 0 && (vf 7 == Int.ofNat 0 && true)))))))
          · conv => whnf
            (rw [hr]; simp_all; done)
          · conv => whnf
            cases z33 : ta == []
            · conv => whnf
              (rw [hr]; simp_all; done)
            · conv => whnf
              cases z34 : nx == Int.ofNat 0
              · conv => whnf
                (rw [hr]; simp_all; done)
              · conv => whnf
                cases z35 :   IntKind.u32.wrap       ↑(BitVec.ofInt IntKind.u32.bits               (IntKind.u32.wrap                 ↑(BitVec.ofInt IntKind.u32.bits                         (IntKind.u32.wrap                           ↑(BitVec.ofInt IntKind.u32.bits ge ||| BitVec.ofInt IntKind.u32.bits mo).toNat) |||                       BitVec.ofInt IntKind.u32.bits us).toNat) |||             BitVec.ofInt IntKind.u32.bits ng).toNat ==     Int.ofNat 0
                · conv => whnf
                  (rw [hr]; simp_all; done)
                · conv => whnf
                  cases z36 : li == Int.ofNat 0
                  · conv => whnf
                    (rw [hr]; simp_all; done)
                  · conv => whnf
                    cases z37 : xrs == Int.ofNat 0 && (xrn == Int.ofNat 0 && true)
                    · conv => whnf
                      (rw [hr]; simp_all; done)
                    · conv => whnf
                      cases z38 : xws == Int.ofNat 0 && (xwn == Int.ofNat 0 && true)
                      · conv => whnf
                        (rw [hr]; simp_all; done)
                      · conv => whnf
                        (rw [hr]; simp_all; done)
  · conv => whnf
    cases z0 : ↑by_.length == Int.ofNat 0
    · conv => whnf
      cases z1 : ↑es.length == Int.ofNat 0
      · conv => whnf
        cases z2 : kd == Int.ofNat 0
        · conv => whnf
          cases z3 : kd == Int.ofNat 1
          · conv => whnf
            cases z4 : kd == Int.ofNat 5
            · conv => whnf
              cases z5 : kd == Int.ofNat 2
              · conv => whnf
                (rw [hr]; simp_all; done)
              · conv => whnf
                (rw [hr]; simp_all; done)
            · conv => whnf
              (rw [hr]; simp_all; done)
          · conv => whnf
            cases z6 : ta == []
            · conv => whnf
              (rw [hr]; simp_all; done)
            · conv => whnf
              (rw [hr]; simp_all; done)
        · conv => whnf
          (rw [hr]; simp_all; done)
      · conv => whnf
        cases z7 : pa == Int.ofNat 0
        · conv => whnf
          cases z8 : kd == Int.ofNat 0
          · conv => whnf
            cases z9 : kd == Int.ofNat 1
            · conv => whnf
              cases z10 : kd == Int.ofNat 5
              · conv => whnf
                cases z11 : kd == Int.ofNat 2
                · conv => whnf
                  (rw [hr]; simp_all; done)
                · conv => whnf
                  (rw [hr]; simp_all; done)
              · conv => whnf
                (rw [hr]; simp_all; done)
            · conv => whnf
              cases z12 : ta == []
              · conv => whnf
                (rw [hr]; simp_all; done)
              · conv => whnf
                (rw [hr]; simp_all; done)
          · conv => whnf
            (rw [hr]; simp_all; done)
        · conv => whnf
          cases z13 : kd == Int.ofNat 0
          · conv => whnf
            cases z14 : kd == Int.ofNat 1
            · conv => whnf
              cases z15 : kd == Int.ofNat 5
              · conv => whnf
                cases z16 : kd == Int.ofNat 2
                · conv => whnf
                  (rw [hr]; simp_all; done)
                · conv => whnf
                  (rw [hr]; simp_all; done)
              · conv => whnf
                (rw [hr]; simp_all; done)
            · conv => whnf
              cases z17 : ta == []
              · conv => whnf
                (rw [hr]; simp_all; done)
              · conv => whnf
                cases z18 : nx == Int.ofNat 0
                · conv => whnf
                  (rw [hr]; simp_all; done)
                · conv => whnf
                  (rw [hr]; simp_all; done)
          · conv => whnf
            (rw [hr]; simp_all; done)
    · conv => whnf
      cases z19 : ↑es.length == Int.ofNat 0
      · conv => whnf
        cases z20 : kd == Int.ofNat 0
        · conv => whnf
          cases z21 : kd == Int.ofNat 1
          · conv => whnf
            cases z22 : kd == Int.ofNat 5
            · conv => whnf
              cases z23 : kd == Int.ofNat 2
              · conv => whnf
                (rw [hr]; simp_all; done)
              · conv => whnf
                cases z24 :   vf 0 == Int.ofNat 0 &&     (vf 1 == Int.ofNat 0 &&       (vf 2 == Int.ofNat 0 &&         (vf 3 == Int.ofNat 0 &&           (vf 4 == Int.ofNat 0 && (vf 5 == Int.ofNat 0 && (vf 6 == Int.ofNat 0 && (vf 7 == Int.ofNat 0 && true)))))))
                · conv => whnf
                  (rw [hr]; simp_all; done)
                · conv => whnf
                  (rw [hr]; simp_all; done)
            · conv => whnf
              cases z25 :   vf 0 == Int.ofNat 0 &&     (vf 1 == Int.ofNat 0 &&       (vf 2 == Int.ofNat 0 &&         (vf 3 == Int.ofNat 0 &&           (vf 4 == Int.ofNat 0 && (vf 5 == Int.ofNat 0 && (vf 6 == Int.ofNat 0 && (vf 7 == Int.ofNat 0 && true)))))))
              · conv => whnf
                (rw [hr]; simp_all; done)
              · conv => whnf
                (rw [hr]; simp_all; done)
          · conv => whnf
            cases z26 : ta == []
            · conv => whnf
              (rw [hr]; simp_all; done)
            · conv => whnf
              (rw [hr]; simp_all; done)
        · conv => whnf
          cases z27 :   vf 0 == Int.ofNat 0 &&     (vf 1 == Int.ofNat 0 &&       (vf 2 == Int.ofNat 0 &&         (vf 3 == Int.ofNat 0 &&           (vf 4 == Int.ofNat 0 && (vf 5 == Int.ofNat 0 && (vf 6 == Int.ofNat 0 && (vf 7 == Int.ofNat 0 && true)))))))
          · conv => whnf
            (rw [hr]; simp_all; done)
          · conv => whnf
            cases z28 : ta == []
            · conv => whnf
              (rw [hr]; simp_all; done)
            · conv => whnf
              (rw [hr]; simp_all; done)
      · conv => whnf
        cases z29 : pa == Int.ofNat 0
        · conv => whnf
          cases z30 : kd == Int.ofNat 0
          · conv => whnf
            cases z31 : kd == Int.ofNat 1
            · conv => whnf
              cases z32 : kd == Int.ofNat 5
              · conv => whnf
                cases z33 : kd == Int.ofNat 2
                · conv => whnf
                  (rw [hr]; simp_all; done)
                · conv => whnf
                  cases z34 :   vf 0 == Int.ofNat 0 &&     (vf 1 == Int.ofNat 0 &&       (vf 2 == Int.ofNat 0 &&         (vf 3 == Int.ofNat 0 &&           (vf 4 == Int.ofNat 0 && (vf 5 == Int.ofNat 0 && (vf 6 == Int.ofNat 0 && (vf 7 == Int.ofNat 0 && true)))))))
                  · conv => whnf
                    (rw [hr]; simp_all; done)
                  · conv => whnf
                    (rw [hr]; simp_all; done)
              · conv => whnf
                cases z35 :   vf 0 == Int.ofNat 0 &&     (vf 1 == Int.ofNat 0 &&       (vf 2 == Int.ofNat 0 &&         (vf 3 == Int.ofNat 0 &&           (vf 4 == Int.ofNat 0 && (vf 5 == Int.ofNat 0 && (vf 6 == Int.ofNat 0 && (vf 7 == Int.ofNat 0 && true)))))))
                · conv => whnf
                  (rw [hr]; simp_all; done)
                · conv => whnf
                  (rw [hr]; simp_all; done)
            · conv => whnf
              cases z36 : ta == []
              · conv => whnf
                (rw [hr]; simp_all; done)
              · conv => whnf
                (rw [hr]; simp_all; done)
          · conv => whnf
            cases z37 :   vf 0 == Int.ofNat 0 &&     (vf 1 == Int.ofNat 0 &&       (vf 2 == Int.ofNat 0 &&         (vf 3 == Int.ofNat 0 &&           (vf 4 == Int.ofNat 0 && (vf 5 == Int.ofNat 0 && (vf 6 == Int.ofNat 0 && (vf 7 == Int.ofNat 0 && true)))))))
            · conv => whnf
              (rw [hr]; simp_all; done)
            · conv => whnf
              cases z38 : ta == []
              · conv => whnf
                (rw [hr]; simp_all; done)
              · conv => whnf
                (rw [hr]; simp_all; done)
        · conv => whnf
          cases z39 : kd == Int.ofNat 0
          · conv => whnf
            cases z40 : kd == Int.ofNat 1
            · conv => whnf
              cases z41 : kd == Int.ofNat 5
              · conv => whnf
                cases z42 : kd == Int.ofNat 2
                · conv => whnf
                  (rw [hr]; simp_all; done)
                · conv => whnf
                  cases z43 :   vf 0 == Int.ofNat 0 &&     (vf 1 == Int.ofNat 0 &&       (vf 2 == Int.ofNat 0 &&         (vf 3 == Int.ofNat 0 &&           (vf 4 == Int.ofNat 0 && (vf 5 == Int.ofNat 0 && (vf 6 == Int.ofNat 0 && (vf 7 == Int.ofNat 0 && true)))))))
                  · conv => whnf
                    (rw [hr]; simp_all; done)
                  · conv => whnf
                    (rw [hr]; simp_all; done)
              · conv => whnf
                cases z44 :   vf 0 == Int.ofNat 0 &&     (vf 1 == Int.ofNat 0 &&       (vf 2 == Int.ofNat 0 &&         (vf 3 == Int.ofNat 0 &&           (vf 4 == Int.ofNat 0 && (vf 5 == Int.ofNat 0 && (vf 6 == Int.ofNat 0 && (vf 7 == Int.ofNat 0 && true)))))))
                · conv => whnf
                  (rw [hr]; simp_all; done)
                · conv => whnf
                  cases z45 : nx == Int.ofNat 0
                  · conv => whnf
                    (rw [hr]; simp_all; done)
                  · conv => whnf
                    with_reducible refine ⟨_, _, c1 _ _, ?_⟩
                    conv => whnf
                    (rw [hr]; simp_all; done)
            · conv => whnf
              cases z46 : ta == []
              · conv => whnf
                (rw [hr]; simp_all; done)
              · conv => whnf
                cases z47 : nx == Int.ofNat 0
                · conv => whnf
                  (rw [hr]; simp_all; done)
                · conv => whnf
                  (rw [hr]; simp_all; done)
          · conv => whnf
            cases z48 :   vf 0 == Int.ofNat 0 &&     (vf 1 == Int.ofNat 0 &&       (vf 2 == Int.ofNat 0 &&         (vf 3 == Int.ofNat 0 &&           (vf 4 == Int.ofNat 0 && (vf 5 == Int.ofNat 0 && (vf 6 == Int.ofNat 0 && (vf 7 == Int.ofNat 0 && true)))))))
            · conv => whnf
              (rw [hr]; simp_all; done)
            · conv => whnf
              cases z49 : ta == []
              · conv => whnf
                (rw [hr]; simp_all; done)
              · conv => whnf
                cases z50 : nx == Int.ofNat 0
                · conv => whnf
                  (rw [hr]; simp_all; done)
                · conv => whnf
                  cases z51 :   IntKind.u32.wrap       ↑(BitVec.ofInt IntKind.u32.bits               (IntKind.u32.wrap                 ↑(BitVec.ofInt IntKind.u32.bits                         (IntKind.u32.wrap                           ↑(BitVec.ofInt IntKind.u32.bits ge ||| BitVec.ofInt IntKind.u32.bits mo).toNat) |||                       BitVec.ofInt IntKind.u32.bits us).toNat) |||             BitVec.ofInt IntKind.u32.bits ng).toNat ==     Int.ofNat 0
                  · conv => whnf
                    (rw [hr]; simp_all; done)
                  · conv => whnf
                    cases z52 : li == Int.ofNat 0
                    · conv => whnf
                      (rw [hr]; simp_all; done)
                    · conv => whnf
                      cases z53 : xrs == Int.ofNat 0 && (xrn == Int.ofNat 0 && true)
                      · conv => whnf
                        (rw [hr]; simp_all; done)
                      · conv => whnf
                        cases z54 : xws == Int.ofNat 0 && (xwn == Int.ofNat 0 && true)
                        · conv => whnf
                          (rw [hr]; simp_all; done)
                        · conv => whnf
                          (rw [hr]; simp_all; done)
end Go.Proofs.Ytlglhnadalbddaa.Ab
/- Over the engine: the entries of a directory. -/
namespace Go.Proofs.Ytlglhnadalbddaa.Ab
open Go Go.RowKit

set_option maxRecDepth 100000
def isNamed (prev : List EntryS) (s : List UInt8) : Bool := prev.any fun e => s == e.name
def namesA (prev : List EntryS) : List (AV × AV) := prev.map fun e => (.str e.name, .int .i64 1)
theorem find_none : ∀ (prev : List EntryS) (s : List UInt8) (i : Nat), isNamed prev s = false → findA (.str s) (namesA prev) i = some none
  | [], _, _, _ => rfl
  | e :: r, s, i, h => by
    unfold isNamed at h
    rw [List.any_cons, Bool.or_eq_false_iff] at h
    show (match sameCell (.str s) (.str e.name) with | some true => _ | some false => _ | none => _) = _
    simp only [sameCell, h.1]
    exact find_none r s (i + 1) h.2
theorem find_some : ∀ (prev : List EntryS) (s : List UInt8) (i : Nat), isNamed prev s = true → ∃ k, findA (.str s) (namesA prev) i = some (some (i + k, .int .i64 1)) ∧ ∀ w, findA (.str s) ((namesA prev).modify k fun e => (e.1, w)) i = some (some (i + k, w))
  | [], _, _, h => by simp [isNamed] at h
  | e :: r, s, i, h => by
    unfold isNamed at h
    rw [List.any_cons] at h
    cases hb : s == e.name with
    | true =>
      refine ⟨0, ?_, fun w => ?_⟩
      · show (match sameCell (.str s) (.str e.name) with | some true => _ | some false => _ | none => _) = _
        simp only [sameCell, hb]
        rfl
      · show (match sameCell (.str s) (.str e.name) with | some true => _ | some false => _ | none => _) = _
        simp only [sameCell, hb]
        rfl
    | false =>
      rw [hb, Bool.false_or] at h
      obtain ⟨k, h1, h2⟩ := find_some r s (i + 1) h
      refine ⟨k + 1, ?_, fun w => ?_⟩
      · show (match sameCell (.str s) (.str e.name) with | some true => _ | some false => _ | none => _) = _
        simp only [sameCell, hb]
        rw [show i + (k + 1) = i + 1 + k by omega]
        exact h1
      · show (match sameCell (.str s) (.str e.name) with | some true => _ | some false => _ | none => _) = _
        simp only [sameCell, hb]
        rw [show i + (k + 1) = i + 1 + k by omega]
        exact h2 w
theorem find_last : ∀ (prev : List EntryS) (s : List UInt8) (i : Nat) (w : AV), isNamed prev s = false → findA (.str s) (namesA prev ++ [(.str s, w)]) i = some (some (i + prev.length, w))
  | [], s, i, w, _ => by
    show (match sameCell (.str s) (.str s) with | some true => _ | some false => _ | none => _) = _
    simp only [sameCell, beq_self_eq_true]
    rfl
  | e :: r, s, i, w, h => by
    unfold isNamed at h
    rw [List.any_cons, Bool.or_eq_false_iff] at h
    show (match sameCell (.str s) (.str e.name) with | some true => _ | some false => _ | none => _) = _
    simp only [sameCell, h.1]
    rw [List.length_cons, show i + (r.length + 1) = i + 1 + r.length by omega]
    exact find_last r s (i + 1) w h.2
theorem topL_app2 : ∀ (a b : List AV), topL (a ++ b) = max (topL a) (topL b)
  | [], b => by simp [topL]
  | x :: a, b => by simp only [List.cons_append, topL, topL_app2 a b, Nat.max_assoc]
theorem names_top : ∀ prev : List EntryS, topL ((namesA prev).map (·.1)) = 0 ∧ topL ((namesA prev).map (·.2)) = 0
  | [] => ⟨rfl, rfl⟩
  | e :: r => by
    obtain ⟨h1, h2⟩ := names_top r
    constructor
    · show max 0 (topL ((namesA r).map (·.1))) = 0
      rw [h1]
      rfl
    · show max 0 (topL ((namesA r).map (·.2))) = 0
      rw [h2]
      rfl
theorem map_top {es : List (AV × AV)} (h1 : topL (es.map (·.1)) = 0) (h2 : topL (es.map (·.2)) = 0) : (AB.map es).top = 0 := by
  simp only [AB.top, h1, h2]
  rfl
theorem modify_top (prev : List EntryS) : ∀ k : Nat, (AB.map ((namesA prev).modify k fun e => (e.1, .int .i64 2))).top = 0 := by
  intro k
  refine map_top ?_ ?_
  · induction prev generalizing k with
    | nil => cases k <;> rfl
    | cons e r ih =>
      cases k with
      | zero =>
        show max 0 (topL ((namesA r).map (·.1))) = 0
        rw [(names_top r).1]
        rfl
      | succ k =>
        show max 0 (topL (((namesA r).modify k fun e => (e.1, .int .i64 2)).map (·.1))) = 0
        rw [ih k]
        rfl
  · induction prev generalizing k with
    | nil => cases k <;> rfl
    | cons e r ih =>
      cases k with
      | zero =>
        show max 0 (topL ((namesA r).map (·.2))) = 0
        rw [(names_top r).2]
        rfl
      | succ k =>
        show max 0 (topL (((namesA r).modify k fun e => (e.1, .int .i64 2)).map (·.2))) = 0
        rw [ih k]
        rfl
/-- What is bad about an entry, behind others. -/
def entBad (ns : List NodeS) (next : Int) (prev : List EntryS) (last : Int) (e : EntryS) : Bool :=
  decide (e.cookie ≤ last) || (decide (e.cookie ≥ next) || (isNamed prev e.name || ((nameSt e.name != 0) || (e.name == [46] || (e.name == [46, 46] || (e.node == 1 || !thereS ns e.node))))))
def entsBad (ns : List NodeS) (next : Int) : List EntryS → Int → List EntryS → Bool
  | _, last, [] => !decide (next > last)
  | prev, last, e :: r => entBad ns next prev last e || entsBad ns next (prev ++ [e]) e.cookie r
def entriesS (ns : List NodeS) (d : NodeS) : Bool := !decide ((d.ents.length : Int) > 1024) && !entsBad ns d.next [] 2 d.ents
def entryLS (ns : List NodeS) (t : Bool) (gen : Int) (d : NodeS) (a : Int × Int) : ST :=
  ⟨RG.of 79 [(17, .int .i64 a.1), (16, .int .i64 d.ents.length), (15, d.list), (6, .mref 2), (5, .int .u64 a.2), (3, .ref 1 0 0), (2, .ref 0 0 0)], ⟨[.cells [.sl (nodesA ns) ns.length t, .int .u32 gen] ⟨false, 0, false, true⟩, .cells (nodeA d) ⟨false, 0, false, true⟩, .map (namesA (d.ents.take a.1.toNat))], []⟩⟩
set_option maxHeartbeats 8000000 in
theorem entries_c (m : Nat) (from_ : FuncId) (h : H) (ns : List NodeS) (t : Bool) (gen : Int) (d : NodeS) (hd : d.ok) (hl : ∀ e ∈ d.ents, e.name.length ≤ 140737488351232) (hn : d.ents.length ≤ 140737488351232) : evCall TE (m + 5) from_ (.fn 19 [] []) [.agg [.sl (nodesA ns) ns.length t, .int .u32 gen], .agg (nodeA d)] h = some (.ret (.bool (entriesS ns d)), h) := by
  have c1 : ∀ (f : FuncId) (h : H) (e : EntryS), e ∈ d.ents → (evAll TE (m + 4)).1 f (.fn 42 [] []) [.str e.name] h = some (.ret (.int .u32 (nameSt e.name)), h) := fun f h e he => name_c m f h e.name (hl e he)
  have c2 : ∀ (f : FuncId) (h : H) (n : Int), (evAll TE (m + 4)).1 f (.fn 13 [] []) [.agg [.sl (nodesA ns) ns.length t, .int .u32 gen], .int .i64 n] h = some (.ret (.bool (thereS ns n)), h) := fun f h n => there_c (m + 3) f h _ ns (.inr ⟨t, rfl⟩) gen n
  obtain ⟨r, hr⟩ : ∃ r, r = entriesS ns d := ⟨_, rfl⟩
  rw [← hr]
  unfold entriesS at hr
  clear hl
  obtain ⟨kd, ge, mo, us, ng, li, xrs, xrn, xws, xwn, ts, tn, da, by_, vf, ta, ls, es, pa, nx⟩ := d
  obtain ⟨hd3, hd4⟩ := hd
  dsimp only at hd3 hd4 c1 hr hn
  rcases hd3 with ⟨rfl, rfl⟩ | ⟨dt, rfl⟩ <;> rcases hd4 with ⟨rfl, rfl⟩ | ⟨lt, rfl⟩
  · refine call_clean (fn := Try.f19) rfl Try.func19 rfl rfl rfl rfl rfl (Nat.le_of_ble_eq_true rfl) ?_
    conv => whnf
    (with_reducible refine ⟨(2 : Nat), ?_, ?_⟩; · exact Nat.le_of_ble_eq_true rfl)
    conv => whnf
    (rw [hr]; simp [entsBad])
  · refine call_clean (fn := Try.f19) rfl Try.func19 rfl rfl rfl rfl rfl (Nat.le_of_ble_eq_true rfl) ?_
    conv => whnf
    cases hg : decide ((es.length : Int) > 1024) with
    | true =>
      conv => whnf
      rw [hr, hg]
      rfl
    | false =>
      rw [hg, Bool.not_false, Bool.true_and] at hr
      conv => whnf
      refine ⟨es.length + 1, by show es.length + 1 ≤ 4611686018427387904; omega, ?_⟩
      refine rounds_ind (entryLS ns t gen ⟨kd, ge, mo, us, ng, li, xrs, xrn, xws, xwn, ts, tn, .sl0, [], vf, ta, (.sl (entriesA es) es.length lt), es, pa, nx⟩) (fun a => 0 ≤ a.1 ∧ a.1 ≤ es.length ∧ r = !entsBad ns nx (es.take a.1.toNat) a.2 (es.drop a.1.toNat)) (fun a => (es.length - a.1).toNat) ?_ _ (0, 2) _ ⟨by omega, by omega, hr⟩ (by simp only; omega) (by kernel_rfl)
      intro a m' hI ih
      obtain ⟨i, la⟩ := a
      dsimp only at hI ih ⊢
      obtain ⟨hI0, hI1, hI2⟩ := hI
      conv => whnf
      cases h1 : decide (i < (es.length : Int)) with
      | false =>
        have h1 := of_decide_eq_false h1
        rw [List.drop_eq_nil_of_le (by omega)] at hI2
        conv => whnf
        (rw [hI2]; simp [entsBad])
      | true =>
        have h1 := of_decide_eq_true h1
        obtain ⟨e, he⟩ : ∃ e, es[i.toNat]? = some e := ⟨_, List.getElem?_eq_getElem (by omega)⟩
        have hc1 : i.toNat * 3 + 3 ≤ (entriesA es).length := by rw [entriesA_len]; omega
        have hd1 := entriesA_entry he
        have c3 := fun f h => c1 f h e (List.mem_of_getElem? he)
        have hdr : es.drop i.toNat = e :: es.drop (i.toNat + 1) := by
          obtain ⟨h3, rfl⟩ := List.getElem?_eq_some_iff.1 he
          exact List.drop_eq_getElem_cons h3
        have htk : es.take (i.toNat + 1) = es.take i.toNat ++ [e] := by
          obtain ⟨h3, rfl⟩ := List.getElem?_eq_some_iff.1 he
          exact List.take_succ_eq_append_getElem h3
        rw [hdr, entsBad] at hI2
        have hw : IntKind.wrap .i64 (i + 1) = i + 1 := wrap64 (by omega) (by omega)
        have hmu : (es.length - IntKind.wrap .i64 (i + 1)).toNat < (es.length - i).toNat := by rw [hw]; omega
        have htn : (IntKind.wrap .i64 (i + 1)).toNat = i.toNat + 1 := by rw [hw]; omega
        have hst : entBad ns nx (es.take i.toNat) la e = false → 0 ≤ IntKind.wrap .i64 (i + 1) ∧ IntKind.wrap .i64 (i + 1) ≤ es.length ∧ r = !entsBad ns nx (es.take (IntKind.wrap .i64 (i + 1)).toNat) e.cookie (es.drop (IntKind.wrap .i64 (i + 1)).toNat) := by
          intro hb
          rw [hb, Bool.false_or] at hI2
          rw [htn, htk]
          exact ⟨by rw [hw]; omega, by rw [hw]; omega, hI2⟩
        have hfa : entBad ns nx (es.take i.toNat) la e = true → r = false := by
          intro hb
          rw [hI2, hb]
          rfl
        have hnm : namesA (es.take (IntKind.wrap .i64 (i + 1)).toNat) = namesA (es.take i.toNat) ++ [(.str e.name, .int .i64 1)] := by
          rw [htn, htk]
          simp [namesA]
        obtain ⟨bd, hbd⟩ : ∃ b, b = entBad ns nx (es.take i.toNat) la e := ⟨_, rfl⟩
        rw [← hbd] at hst hfa
        unfold entBad at hbd
        clear hI2 hdr htk
        generalize es.take i.toNat = prev at *
        generalize nameSt e.name = nst at c3 hbd
        obtain ⟨xa, xb, xc⟩ := e
        dsimp only at c3 hbd hst hnm hd1
        generalize hth : thereS ns xb = th at hbd
        have c4 := fun f h => c2 f h xb
        rw [hth] at c4
        cases hnd : isNamed prev xa with
        | true =>
          obtain ⟨k, hf1, hf2⟩ := find_some prev xa 0 hnd
          have hbt : bd = true := by rw [hbd, hnd]; simp
          rw [Nat.zero_add] at hf1
          rw [hbt] at hfa
          have hf3 := hf2 (.int .i64 2)
          rw [Nat.zero_add] at hf3
          conv => whnf
          (refine runK_ret (ev_indexSl (sz := 3) rfl rfl rfl rfl hI0 h1) ?_)
          conv => whnf
          (refine runK_ret (ev_loadVA (z := 3) rfl rfl rfl hc1 hd1) ?_)
          conv => whnf
          (refine runK_ret (v := .int .i64 1) (w := .none) (by simp only [hf1]; rfl) ?_)
          conv => whnf
          (refine     runK_ret (v := .tup []) (w := .blk 2 (.map ((namesA prev).modify k fun e => (e.1, .int .i64 2))))       (by simp only [mapSetA, hf1]; rfl) ?_)
          conv => whnf
          (refine listK_of (if_pos (by rw [modify_top]; exact Nat.zero_le _)) ?_)
          conv => whnf
          cases z0 : decide (xc ≤ la)
          · conv => whnf
            cases z1 : decide (xc ≥ nx)
            · conv => whnf
              (refine runK_ret (v := .int .i64 2) (w := .none) (by simp only [hf3]; rfl) ?_)
              conv => whnf
              (rw [hfa rfl])
            · conv => whnf
              (rw [hfa rfl])
          · conv => whnf
            (rw [hfa rfl])
        | false =>
          have hf1 := find_none prev xa 0 hnd
          have hf2 := find_last prev xa 0 (.int .i64 1) hnd
          rw [hnd] at hbd
          have htp : topL ((namesA prev ++ [(AV.str xa, AV.int .i64 1)]).map (·.1)) = 0 ∧ topL ((namesA prev ++ [(AV.str xa, AV.int .i64 1)]).map (·.2)) = 0 := by
            rw [List.map_append, List.map_append, topL_app2, topL_app2, (names_top prev).1, (names_top prev).2]
            exact ⟨rfl, rfl⟩
          conv => whnf
          (refine runK_ret (ev_indexSl (sz := 3) rfl rfl rfl rfl hI0 h1) ?_)
          conv => whnf
          (refine runK_ret (ev_loadVA (z := 3) rfl rfl rfl hc1 hd1) ?_)
          conv => whnf
          (refine runK_ret (v := .int .i64 0) (w := .none) (by simp only [hf1]; rfl) ?_)
          conv => whnf
          (refine     runK_ret (v := .tup []) (w := .blk 2 (.map (namesA prev ++ [(.str xa, .int .i64 1)])))       (by simp only [mapSetA, hf1]; rfl) ?_)
          conv => whnf
          (refine listK_of (if_pos (by rw [map_top htp.1 htp.2]; exact Nat.zero_le _)) ?_)
          conv => whnf
          cases z0 : decide (xc ≤ la)
          · conv => whnf
            cases z1 : decide (xc ≥ nx)
            · conv => whnf
              (refine runK_ret (v := .int .i64 1) (w := .none) (by simp only [hf2]; rfl) ?_)
              conv => whnf
              with_reducible refine ⟨_, _, c3 _ _, ?_⟩
              conv => whnf
              cases z2 : nst != Int.ofNat 0
              · conv => whnf
                cases z3 : xa == [UInt8.ofNat 46]
                · conv => whnf
                  cases z4 : xa == [UInt8.ofNat 46, UInt8.ofNat 46]
                  · conv => whnf
                    cases z5 : xb == Int.ofNat 1
                    · conv => whnf
                      with_reducible refine ⟨_, _, c4 _ _, ?_⟩
                      conv => whnf
                      cases th
                      · conv => whnf
                        (rw [hfa (by clear ih; rw [hbd]; simp_all)])
                      · conv => whnf
                        (exact     ih (IntKind.wrap .i64 (i + 1), xc) _ (hst (by clear ih; rw [hbd]; simp_all)) hmu       (by unfold entryLS; dsimp only; rw [hnm]; kernel_rfl))
                    · conv => whnf
                      (rw [hfa (by clear ih; rw [hbd]; simp_all)])
                  · conv => whnf
                    (rw [hfa (by clear ih; rw [hbd]; simp_all)])
                · conv => whnf
                  (rw [hfa (by clear ih; rw [hbd]; simp_all)])
              · conv => whnf
                (rw [hfa (by clear ih; rw [hbd]; simp_all)])
            · conv => whnf
              (rw [hfa (by clear ih; rw [hbd]; simp_all)])
          · conv => whnf
            (rw [hfa (by clear ih; rw [hbd]; simp_all)])
  · refine call_clean (fn := Try.f19) rfl Try.func19 rfl rfl rfl rfl rfl (Nat.le_of_ble_eq_true rfl) ?_
    conv => whnf
    (with_reducible refine ⟨(2 : Nat), ?_, ?_⟩; · exact Nat.le_of_ble_eq_true rfl)
    conv => whnf
    (rw [hr]; simp [entsBad])
  · refine call_clean (fn := Try.f19) rfl Try.func19 rfl rfl rfl rfl rfl (Nat.le_of_ble_eq_true rfl) ?_
    conv => whnf
    cases hg : decide ((es.length : Int) > 1024) with
    | true =>
      conv => whnf
      rw [hr, hg]
      rfl
    | false =>
      rw [hg, Bool.not_false, Bool.true_and] at hr
      conv => whnf
      refine ⟨es.length + 1, by show es.length + 1 ≤ 4611686018427387904; omega, ?_⟩
      refine rounds_ind (entryLS ns t gen ⟨kd, ge, mo, us, ng, li, xrs, xrn, xws, xwn, ts, tn, (.sl (numsA .u8 by_) by_.length dt), by_, vf, ta, (.sl (entriesA es) es.length lt), es, pa, nx⟩) (fun a => 0 ≤ a.1 ∧ a.1 ≤ es.length ∧ r = !entsBad ns nx (es.take a.1.toNat) a.2 (es.drop a.1.toNat)) (fun a => (es.length - a.1).toNat) ?_ _ (0, 2) _ ⟨by omega, by omega, hr⟩ (by simp only; omega) (by kernel_rfl)
      intro a m' hI ih
      obtain ⟨i, la⟩ := a
      dsimp only at hI ih ⊢
      obtain ⟨hI0, hI1, hI2⟩ := hI
      conv => whnf
      cases h1 : decide (i < (es.length : Int)) with
      | false =>
        have h1 := of_decide_eq_false h1
        rw [List.drop_eq_nil_of_le (by omega)] at hI2
        conv => whnf
        (rw [hI2]; simp [entsBad])
      | true =>
        have h1 := of_decide_eq_true h1
        obtain ⟨e, he⟩ : ∃ e, es[i.toNat]? = some e := ⟨_, List.getElem?_eq_getElem (by omega)⟩
        have hc1 : i.toNat * 3 + 3 ≤ (entriesA es).length := by rw [entriesA_len]; omega
        have hd1 := entriesA_entry he
        have c3 := fun f h => c1 f h e (List.mem_of_getElem? he)
        have hdr : es.drop i.toNat = e :: es.drop (i.toNat + 1) := by
          obtain ⟨h3, rfl⟩ := List.getElem?_eq_some_iff.1 he
          exact List.drop_eq_getElem_cons h3
        have htk : es.take (i.toNat + 1) = es.take i.toNat ++ [e] := by
          obtain ⟨h3, rfl⟩ := List.getElem?_eq_some_iff.1 he
          exact List.take_succ_eq_append_getElem h3
        rw [hdr, entsBad] at hI2
        have hw : IntKind.wrap .i64 (i + 1) = i + 1 := wrap64 (by omega) (by omega)
        have hmu : (es.length - IntKind.wrap .i64 (i + 1)).toNat < (es.length - i).toNat := by rw [hw]; omega
        have htn : (IntKind.wrap .i64 (i + 1)).toNat = i.toNat + 1 := by rw [hw]; omega
        have hst : entBad ns nx (es.take i.toNat) la e = false → 0 ≤ IntKind.wrap .i64 (i + 1) ∧ IntKind.wrap .i64 (i + 1) ≤ es.length ∧ r = !entsBad ns nx (es.take (IntKind.wrap .i64 (i + 1)).toNat) e.cookie (es.drop (IntKind.wrap .i64 (i + 1)).toNat) := by
          intro hb
          rw [hb, Bool.false_or] at hI2
          rw [htn, htk]
          exact ⟨by rw [hw]; omega, by rw [hw]; omega, hI2⟩
        have hfa : entBad ns nx (es.take i.toNat) la e = true → r = false := by
          intro hb
          rw [hI2, hb]
          rfl
        have hnm : namesA (es.take (IntKind.wrap .i64 (i + 1)).toNat) = namesA (es.take i.toNat) ++ [(.str e.name, .int .i64 1)] := by
          rw [htn, htk]
          simp [namesA]
        obtain ⟨bd, hbd⟩ : ∃ b, b = entBad ns nx (es.take i.toNat) la e := ⟨_, rfl⟩
        rw [← hbd] at hst hfa
        unfold entBad at hbd
        clear hI2 hdr htk
        generalize es.take i.toNat = prev at *
        generalize nameSt e.name = nst at c3 hbd
        obtain ⟨xa, xb, xc⟩ := e
        dsimp only at c3 hbd hst hnm hd1
        generalize hth : thereS ns xb = th at hbd
        have c4 := fun f h => c2 f h xb
        rw [hth] at c4
        cases hnd : isNamed prev xa with
        | true =>
          obtain ⟨k, hf1, hf2⟩ := find_some prev xa 0 hnd
          have hbt : bd = true := by rw [hbd, hnd]; simp
          rw [Nat.zero_add] at hf1
          rw [hbt] at hfa
          have hf3 := hf2 (.int .i64 2)
          rw [Nat.zero_add] at hf3
          conv => whnf
          (refine runK_ret (ev_indexSl (sz := 3) rfl rfl rfl rfl hI0 h1) ?_)
          conv => whnf
          (refine runK_ret (ev_loadVA (z := 3) rfl rfl rfl hc1 hd1) ?_)
          conv => whnf
          (refine runK_ret (v := .int .i64 1) (w := .none) (by simp only [hf1]; rfl) ?_)
          conv => whnf
          (refine     runK_ret (v := .tup []) (w := .blk 2 (.map ((namesA prev).modify k fun e => (e.1, .int .i64 2))))       (by simp only [mapSetA, hf1]; rfl) ?_)
          conv => whnf
          (refine listK_of (if_pos (by rw [modify_top]; exact Nat.zero_le _)) ?_)
          conv => whnf
          cases z0 : decide (xc ≤ la)
          · conv => whnf
            cases z1 : decide (xc ≥ nx)
            · conv => whnf
              (refine runK_ret (v := .int .i64 2) (w := .none) (by simp only [hf3]; rfl) ?_)
              conv => whnf
              (rw [hfa rfl])
            · conv => whnf
              (rw [hfa rfl])
          · conv => whnf
            (rw [hfa rfl])
        | false =>
          have hf1 := find_none prev xa 0 hnd
          have hf2 := find_last prev xa 0 (.int .i64 1) hnd
          rw [hnd] at hbd
          have htp : topL ((namesA prev ++ [(AV.str xa, AV.int .i64 1)]).map (·.1)) = 0 ∧ topL ((namesA prev ++ [(AV.str xa, AV.int .i64 1)]).map (·.2)) = 0 := by
            rw [List.map_append, List.map_append, topL_app2, topL_app2, (names_top prev).1, (names_top prev).2]
            exact ⟨rfl, rfl⟩
          conv => whnf
          (refine runK_ret (ev_indexSl (sz := 3) rfl rfl rfl rfl hI0 h1) ?_)
          conv => whnf
          (refine runK_ret (ev_loadVA (z := 3) rfl rfl rfl hc1 hd1) ?_)
          conv => whnf
          (refine runK_ret (v := .int .i64 0) (w := .none) (by simp only [hf1]; rfl) ?_)
          conv => whnf
          (refine     runK_ret (v := .tup []) (w := .blk 2 (.map (namesA prev ++ [(.str xa, .int .i64 1)])))       (by simp only [mapSetA, hf1]; rfl) ?_)
          conv => whnf
          (refine listK_of (if_pos (by rw [map_top htp.1 htp.2]; exact Nat.zero_le _)) ?_)
          conv => whnf
          cases z0 : decide (xc ≤ la)
          · conv => whnf
            cases z1 : decide (xc ≥ nx)
            · conv => whnf
              (refine runK_ret (v := .int .i64 1) (w := .none) (by simp only [hf2]; rfl) ?_)
              conv => whnf
              with_reducible refine ⟨_, _, c3 _ _, ?_⟩
              conv => whnf
              cases z2 : nst != Int.ofNat 0
              · conv => whnf
                cases z3 : xa == [UInt8.ofNat 46]
                · conv => whnf
                  cases z4 : xa == [UInt8.ofNat 46, UInt8.ofNat 46]
                  · conv => whnf
                    cases z5 : xb == Int.ofNat 1
                    · conv => whnf
                      with_reducible refine ⟨_, _, c4 _ _, ?_⟩
                      conv => whnf
                      cases th
                      · conv => whnf
                        (rw [hfa (by clear ih; rw [hbd]; simp_all)])
                      · conv => whnf
                        (exact     ih (IntKind.wrap .i64 (i + 1), xc) _ (hst (by clear ih; rw [hbd]; simp_all)) hmu       (by unfold entryLS; dsimp only; rw [hnm]; kernel_rfl))
                    · conv => whnf
                      (rw [hfa (by clear ih; rw [hbd]; simp_all)])
                  · conv => whnf
                    (rw [hfa (by clear ih; rw [hbd]; simp_all)])
                · conv => whnf
                  (rw [hfa (by clear ih; rw [hbd]; simp_all)])
              · conv => whnf
                (rw [hfa (by clear ih; rw [hbd]; simp_all)])
            · conv => whnf
              (rw [hfa (by clear ih; rw [hbd]; simp_all)])
          · conv => whnf
            (rw [hfa (by clear ih; rw [hbd]; simp_all)])
end Go.Proofs.Ytlglhnadalbddaa.Ab
/- Over the engine: nodes that have what they may not; directories within one another. -/
namespace Go.Proofs.Ytlglhnadalbddaa.Ab
open Go Go.RowKit

set_option maxRecDepth 100000
theorem bad1_c (m : Nat) (from_ : FuncId) (h : H) (x : NodeS) (hx : x.ok) (hl : x.target.length ≤ 140737488351232) : evCall TE (m + 6) from_ (.fn 15 [] []) [.agg (nodeA x)] h = some (.ret (.bool (!onlyS x)), h) := by
  have c1 : ∀ (f : FuncId) (h : H), (evAll TE (m + 5)).1 f (.fn 16 [] []) [.agg (nodeA x)] h = some (.ret (.bool (onlyS x)), h) := fun f h => only_c m f h x hx hl
  generalize onlyS x = q at c1 ⊢
  unfold nodeA at c1 ⊢
  obtain ⟨kd, ge, mo, us, ng, li, xrs, xrn, xws, xwn, ts, tn, da, by_, vf, ta, ls, es, pa, nx⟩ := x
  simp only [NodeS.ok, rowOk, entsOk] at hx
  obtain ⟨hd3, hd4⟩ := hx
  dsimp only at c1 ⊢
  rcases hd3 with ⟨rfl, rfl⟩ | ⟨dt, rfl⟩ <;> rcases hd4 with ⟨rfl, rfl⟩ | ⟨lt, rfl⟩
  all_goals refine call_clean (fn := Try.f15) rfl Try.func15 rfl rfl rfl rfl rfl (Nat.le_of_ble_eq_true rfl) ?_
  all_goals
    conv => whnf
    with_reducible refine ⟨_, _, c1 _ _, ?_⟩
    conv => whnf
def anyBad (ns : List NodeS) : Bool := ns.any fun x => !onlyS x
theorem anyBad_drop {ns : List NodeS} {i : Nat} {x : NodeS} (h : ns[i]? = some x) : anyBad (ns.drop i) = (!onlyS x || anyBad (ns.drop (i + 1))) := by
  obtain ⟨h1, rfl⟩ := List.getElem?_eq_some_iff.1 h
  unfold anyBad
  rw [List.drop_eq_getElem_cons h1, List.any_cons]
def idxbS (ns : List NodeS) (t : Bool) (i : Int) : ST :=
  ⟨RG.of 19 [(8, .int .i64 i), (7, .int .i64 ns.length), (1, .fn 15 [] []), (0, .sl (nodesA ns) ns.length t)], ⟨[], []⟩⟩
set_option maxHeartbeats 4000000 in
theorem index_bad (m : Nat) (ns : List NodeS) (t : Bool) (hok : ∀ x ∈ ns, x.ok ∧ x.target.length ≤ 140737488351232) (hl : ns.length ≤ 140737488351232) : ∃ v, (∃ r : Int, v = .int .i64 r ∧ decide (r ≥ 0) = anyBad ns) ∧ ∀ (from_ : FuncId) (h : H), evCall TE (m + 7) from_ (.fn 39 [] []) [.sl (nodesA ns) ns.length t, .fn 15 [] []] h = some (.ret v, h) := by
  refine call_cleanP (fn := Try.f39) rfl Try.func39 rfl (fun _ => rfl) rfl rfl (Nat.le_of_ble_eq_true rfl) ?_
  conv => whnf
  refine ⟨ns.length + 1, by show ns.length + 1 ≤ 4611686018427387904; omega, ?_⟩
  refine rounds_ind (idxbS ns t) (fun i => 0 ≤ i ∧ i ≤ ns.length ∧ anyBad ns = anyBad (ns.drop i.toNat)) (fun i => (ns.length - i).toNat) ?_ _ 0 _ ⟨by omega, by omega, rfl⟩ (by omega) (by kernel_rfl)
  intro i m' hI ih
  obtain ⟨hI0, hI1, hI2⟩ := hI
  conv => whnf
  cases h1 : decide (i < (ns.length : Int)) with
  | false =>
    have h1 := of_decide_eq_false h1
    rw [List.drop_eq_nil_of_le (by omega)] at hI2
    conv => whnf
    (exact ⟨rfl, _, rfl, by rw [hI2]; rfl⟩)
  | true =>
    have h1 := of_decide_eq_true h1
    obtain ⟨x, hx⟩ : ∃ x, ns[i.toNat]? = some x := ⟨_, List.getElem?_eq_getElem (by omega)⟩
    have hc1 : i.toNat * 25 + 25 ≤ (nodesA ns).length := by rw [nodesA_len]; omega
    have hd1 := nodesA_node hx
    have k1 := hok x (List.mem_of_getElem? hx)
    have c1 : ∀ (f : FuncId) (h : H), (evAll TE (m + 6)).1 f (.fn 15 [] []) [.agg (nodeA x)] h = some (.ret (.bool (!onlyS x)), h) := fun f h => bad1_c m f h x k1.1 k1.2
    rw [anyBad_drop hx] at hI2
    generalize onlyS x = q at c1 hI2
    unfold nodeA at c1
    have hw : IntKind.wrap .i64 (i + 1) = i + 1 := wrap64 (by omega) (by omega)
    have hmu : (ns.length - IntKind.wrap .i64 (i + 1)).toNat < (ns.length - i).toNat := by rw [hw]; omega
    have hst : q = true → 0 ≤ IntKind.wrap .i64 (i + 1) ∧ IntKind.wrap .i64 (i + 1) ≤ ns.length ∧ anyBad ns = anyBad (ns.drop (IntKind.wrap .i64 (i + 1)).toNat) := by
      intro he
      rw [he] at hI2
      rw [hw, show (i + 1).toNat = i.toNat + 1 by omega]
      exact ⟨by omega, by omega, hI2⟩
    have hfa : q = false → decide (i ≥ 0) = anyBad ns := by
      intro he
      rw [hI2, he, decide_eq_true hI0]
      rfl
    cases q with
    | true =>
      conv => whnf
      (refine runK_ret (ev_indexSl (sz := 25) rfl rfl rfl rfl hI0 h1) ?_)
      conv => whnf
      (refine runK_ret (ev_loadVA (z := 25) rfl rfl rfl hc1 hd1) ?_)
      conv => whnf
      with_reducible refine ⟨_, _, c1 _ _, ?_⟩
      conv => whnf
      (exact ih (IntKind.wrap .i64 (i + 1)) _ (hst rfl) hmu (by kernel_rfl))
    | false =>
      conv => whnf
      (refine runK_ret (ev_indexSl (sz := 25) rfl rfl rfl rfl hI0 h1) ?_)
      conv => whnf
      (refine runK_ret (ev_loadVA (z := 25) rfl rfl rfl hc1 hd1) ?_)
      conv => whnf
      with_reducible refine ⟨_, _, c1 _ _, ?_⟩
      conv => whnf
      (exact ⟨rfl, _, rfl, hfa rfl⟩)
theorem contains_bad (m : Nat) (from_ : FuncId) (h : H) (ns : List NodeS) (t : Bool) (hok : ∀ x ∈ ns, x.ok ∧ x.target.length ≤ 140737488351232) (hl : ns.length ≤ 140737488351232) : evCall TE (m + 8) from_ (.fn 14 [] []) [.sl (nodesA ns) ns.length t, .fn 15 [] []] h = some (.ret (.bool (anyBad ns)), h) := by
  obtain ⟨_, ⟨r, rfl, hr⟩, hc⟩ := index_bad m ns t hok hl
  have c1 : ∀ (f : FuncId) (h : H), (evAll TE (m + 7)).1 f (.fn 39 [] []) [.sl (nodesA ns) ns.length t, .fn 15 [] []] h = some (.ret (.int .i64 r), h) := fun f h => hc f h
  rw [← hr]
  refine call_clean (fn := Try.f14) rfl Try.func14 rfl rfl rfl rfl rfl (Nat.le_of_ble_eq_true rfl) ?_
  conv => whnf
  with_reducible refine ⟨_, _, c1 _ _, ?_⟩
  conv => whnf
end Go.Proofs.Ytlglhnadalbddaa.Ab
/- Over the engine: directories within one another. -/
namespace Go.Proofs.Ytlglhnadalbddaa.Ab
open Go Go.RowKit

set_option maxRecDepth 100000
/-- A loop whose state is told by what turns of the one that it began with. -/
theorem rounds_at {α : Type} {f : ST → (AX → ST → Prop) → Prop} {ks : Option (List Nat)} {n : Nat} {Q : AX → ST → Prop} (upd : ST → α → ST) (I : α → Prop) (μ : α → Nat) {s : ST} (m : Nat) (a : α) (ha : I a) (hm : μ a < m) (h0 : s.norm ks n = upd s a)
    (step : ∀ a m, I a → (∀ a' s', I a' → μ a' < μ a → s'.norm ks n = upd s a' → roundsK f (normK ks n) Q m s') → f (upd s a) fun x s' => match x with
      | .normal => roundsK f (normK ks n) Q m s'
      | x => Q x s') : roundsK f (normK ks n) Q m s := rounds_ind (upd s) I μ step m a s ha hm h0
def parentS (ns : List NodeS) (d : Int) : Int := match ns[d.toNat]? with
  | some x => x.parent
  | none => 0
def dirS (ns : List NodeS) (d : Int) : Bool := thereS ns d && kindS ns d == 2
def withinS (ns : List NodeS) (top : Int) : Nat → Int → Bool
  | 0, _ => false
  | k + 1, d => if dirS ns d = true then if (d == top) = true then true else if (d == 1) = true then false else withinS ns top k (parentS ns d) else false
set_option maxHeartbeats 8000000 in
theorem within_c (m : Nat) (from_ : FuncId) (h : H) (ns : List NodeS) (t : Bool) (gen d top : Int) (hl : ns.length ≤ 140737488351232) : evCall TE (m + 5) from_ (.fn 20 [] []) [.agg [.sl (nodesA ns) ns.length t, .int .u32 gen], .int .i64 d, .int .i64 top] h = some (.ret (.bool (withinS ns top (ns.length + 1) d)), h) := by
  have c1 : ∀ (f : FuncId) (h : H) (d : Int), (evAll TE (m + 3)).1 f (.fn 12 [] []) [.agg [.sl (nodesA ns) ns.length t, .int .u32 gen], .int .i64 d, .int .u32 2] h = some (.ret (.bool (dirS ns d)), h) := fun f h d => is_c (m + 1) f h ns t gen d 2
  obtain ⟨r, hr⟩ : ∃ r, r = withinS ns top (ns.length + 1) d := ⟨_, rfl⟩
  rw [← hr]
  have hw0 : IntKind.wrap .i64 ((ns.length : Int) + 1) = ns.length + 1 := wrap64 (by omega) (by omega)
  refine call_clean (fn := Try.f20) rfl Try.func20 rfl rfl rfl rfl rfl (Nat.le_of_ble_eq_true rfl) ?_
  conv => whnf
  (refine call_raw (fn := Try.f43) rfl Try.func43 rfl rfl (Nat.le_of_ble_eq_true rfl) ?_)
  conv => whnf
  (refine range_K ?_)
  conv => whnf
  (refine call_inline (fn := Try.f55) rfl Try.func55 rfl rfl ?_)
  conv => whnf
  rw [hw0]
  refine ⟨ns.length + 2, by show ns.length + 2 ≤ 4611686018427387904; omega, ?_⟩
  refine rounds_at (fun s (a : Int × Int) => ⟨RG.of 31 [(8, .int .i64 a.1), (7, .int .i64 ((ns.length : Int) + 1)), (2, .ref 4 0 0), (1, .ref 3 0 0), (0, .yc 5)], ⟨s.h.bs.set 4 (.cells [.int .i64 a.2] ⟨false, 0, false, true⟩), s.h.esc⟩⟩) (fun a => 0 ≤ a.1 ∧ a.1 ≤ ns.length + 1 ∧ r = withinS ns top (ns.length + 1 - a.1).toNat a.2) (fun a => (ns.length + 1 - a.1).toNat) _ (0, d) ⟨by omega, by omega, hr⟩ (by simp only; omega) (by kernel_rfl) ?_
  intro a m' hI ih
  obtain ⟨i, d'⟩ := a
  dsimp only at hI ih ⊢
  obtain ⟨hI0, hI1, hI2⟩ := hI
  clear hr
  conv => whnf
  cases h1 : decide (i < (ns.length : Int) + 1) with
  | false =>
    have h1 := of_decide_eq_false h1
    rw [show (ns.length + 1 - i).toNat = 0 by omega] at hI2
    clear ih
    conv => whnf
    (rw [hI2]; rfl)
  | true =>
    have h1 := of_decide_eq_true h1
    have hw : IntKind.wrap .i64 (i + 1) = i + 1 := wrap64 (by omega) (by omega)
    have hmu : (ns.length + 1 - IntKind.wrap .i64 (i + 1)).toNat < (ns.length + 1 - i).toNat := by rw [hw]; omega
    obtain ⟨k, hk⟩ : ∃ k, (ns.length + 1 - i).toNat = k + 1 := ⟨(ns.length + 1 - i).toNat - 1, by omega⟩
    have hk2 : (ns.length + 1 - IntKind.wrap .i64 (i + 1)).toNat = k := by rw [hw]; omega
    rw [hk, withinS] at hI2
    have hwa : 0 ≤ IntKind.wrap .i64 (i + 1) ∧ IntKind.wrap .i64 (i + 1) ≤ ns.length + 1 := by rw [hw]; omega
    have c2 := fun f h => c1 f h d'
    cases hd : dirS ns d' with
    | false =>
      rw [hd] at c2 hI2
      clear ih
      conv => whnf
      with_reducible refine ⟨_, _, c2 _ _, ?_⟩
      conv => whnf
      (rw [hI2]; rfl)
    | true =>
      rw [hd, if_pos rfl] at hI2
      rw [hd] at c2
      have hd2 := hd
      unfold dirS thereS at hd2
      rw [Bool.and_eq_true, Bool.and_eq_true, Bool.and_eq_true, decide_eq_true_eq, decide_eq_true_eq] at hd2
      have hd0 : 0 ≤ d' := by omega
      have hd1 := hd2.1.2.1
      obtain ⟨x, hx⟩ : ∃ x, ns[d'.toNat]? = some x := ⟨_, List.getElem?_eq_getElem (by omega)⟩
      have hp : parentS ns d' = x.parent := by unfold parentS; rw [hx]
      rw [hp] at hI2
      clear hd2
      cases q1 : (d' == top) with
      | true =>
        rw [q1, if_pos rfl] at hI2
        clear ih
        conv => whnf
        with_reducible refine ⟨_, _, c2 _ _, ?_⟩
        conv => whnf
        (refine yield_K ?_)
        conv => whnf
        ((with_reducible cases z0 : d' == top) <;> try exact Bool.noConfusion (Eq.trans (Eq.symm z0) q1))
        conv => whnf
        (rw [hI2])
      | false =>
        rw [q1, if_neg (fun h => Bool.noConfusion h)] at hI2
        cases q2 : (d' == (1 : Int)) with
        | true =>
          rw [q2, if_pos rfl] at hI2
          clear ih
          conv => whnf
          with_reducible refine ⟨_, _, c2 _ _, ?_⟩
          conv => whnf
          (refine yield_K ?_)
          conv => whnf
          ((with_reducible cases z0 : d' == top) <;> try exact Bool.noConfusion (Eq.trans (Eq.symm z0) q1))
          conv => whnf
          ((with_reducible cases z1 : d' == Int.ofNat 1) <;> try exact Bool.noConfusion (Eq.trans (Eq.symm z1) q2))
          conv => whnf
          (rw [hI2])
        | false =>
          rw [q2, if_neg (fun h => Bool.noConfusion h)] at hI2
          conv => whnf
          with_reducible refine ⟨_, _, c2 _ _, ?_⟩
          conv => whnf
          (refine yield_K ?_)
          conv => whnf
          ((with_reducible cases z0 : d' == top) <;> try exact Bool.noConfusion (Eq.trans (Eq.symm z0) q1))
          conv => whnf
          ((with_reducible cases z1 : d' == Int.ofNat 1) <;> try exact Bool.noConfusion (Eq.trans (Eq.symm z1) q2))
          conv => whnf
          (refine runK_ret (ev_indexSl (sz := 25) rfl rfl rfl rfl hd0 hd1) ?_)
          conv => whnf
          (refine runK_ret (ev_loadV (z := 1) rfl rfl rfl ((nodesA_cell hx 23 (by decide)).trans rfl)) ?_)
          conv => whnf
          (exact ih (IntKind.wrap .i64 (i + 1), x.parent) _ ⟨hwa.1, hwa.2, by rw [hk2]; exact hI2⟩ hmu (by kernel_rfl))
end Go.Proofs.Ytlglhnadalbddaa.Ab
/- Over the engine: how great a tree is. -/
namespace Go.Proofs.Ytlglhnadalbddaa.Ab
open Go Go.RowKit

def entsSize (l : List EntryS) : Int := l.length + (l.map fun e => (e.name.length : Int)).sum
def nodeSize (x : NodeS) : Int := 1 + x.target.length + x.bytes.length + entsSize x.ents
def nodesSize (l : List NodeS) : Int := l.length + (l.map nodeSize).sum
set_option maxRecDepth 100000
theorem sum_take {α : Type} (f : α → Int) {l : List α} {i : Nat} {x : α} (h : l[i]? = some x) : ((l.take (i + 1)).map f).sum = ((l.take i).map f).sum + f x := by
  rw [List.take_add_one, h]
  simp
theorem bytesSize_c (m : Nat) (from_ : FuncId) (h : H) (v : AV) (l : List Int) (hv : rowOk .u8 v l) : evCall TE (m + 1) from_ (.fn 58 [] []) [v] h = some (.ret (.int .i64 l.length), h) := by
  rcases hv with ⟨rfl, rfl⟩ | ⟨t, rfl⟩
  · skip
    kernel_rfl
  · skip
    kernel_rfl
def entsS (l : List EntryS) (t : Bool) (p : Int × Int) : ST :=
  ⟨RG.of 26 [(4, .int .i64 p.1), (3, .int .i64 p.2), (0, .sl (entriesA l) l.length t)], ⟨[], []⟩⟩
theorem entsSize_c (m : Nat) (v : AV) (l : List EntryS) (hv : entsOk v l) (hn : ∀ e ∈ l, e.name.length ≤ 140737488351232) (hl : l.length ≤ 140737488351232) :
    ∃ v', (∃ r : Int, v' = .int .i64 r ∧ 0 ≤ r ∧ r ≤ 281474976710656 ∧ (r ≤ 1048576 → r = entsSize l)) ∧ ∀ (from_ : FuncId) (h : H), evCall TE (m + 1) from_ (.fn 59 [] []) [v] h = some (.ret v', h) := by
  rcases hv with ⟨rfl, rfl⟩ | ⟨t, rfl⟩
  · refine ⟨_, ⟨0, rfl, by omega, by omega, fun _ => rfl⟩, fun from_ h => ?_⟩
    kernel_rfl
  · refine call_cleanP (fn := Try.f59) rfl Try.func59 rfl (fun _ => rfl) rfl rfl (Nat.le_of_ble_eq_true rfl) ?_
    conv => whnf
    refine ⟨l.length + 1, by show l.length + 1 ≤ 4611686018427387904; omega, ?_⟩
    refine rounds_ind (entsS l t) (fun p => 0 ≤ p.1 ∧ p.1 ≤ l.length ∧ 0 ≤ p.2 ∧ p.2 ≤ 281474976710656 ∧ (p.2 ≤ 1048576 → p.2 = l.length + ((l.take p.1.toNat).map fun e => (e.name.length : Int)).sum)) (fun p => (l.length - p.1).toNat) ?_ _ (0, l.length) _ ⟨by dsimp only; omega, by dsimp only; omega, by dsimp only; omega, by dsimp only; omega, fun _ => by simp⟩ (by simp) (by kernel_rfl)
    intro p m' hI ih
    obtain ⟨i, s⟩ := p
    dsimp only at hI ih ⊢
    conv => whnf
    cases h1 : decide (i < (l.length : Int)) with
    | false =>
      have h1 := of_decide_eq_false h1
      conv => whnf
      refine ⟨rfl, s, rfl, hI.2.2.1, hI.2.2.2.1, fun hs => ?_⟩
      rw [hI.2.2.2.2 hs, List.take_of_length_le (by omega)]
      rfl
    | true =>
      have h1 := of_decide_eq_true h1
      conv => whnf
      cases h2 : decide (s ≤ 1048576) with
      | false =>
        have h2 := of_decide_eq_false h2
        conv => whnf
        exact ⟨rfl, s, rfl, hI.2.2.1, hI.2.2.2.1, fun hs => absurd hs h2⟩
      | true =>
        have h2 := of_decide_eq_true h2
        obtain ⟨x, hx⟩ : ∃ x, l[i.toNat]? = some x := ⟨_, List.getElem?_eq_getElem (by omega)⟩
        have hxn := hn x (List.mem_of_getElem? hx)
        conv => whnf
        refine runK_ret (ev_indexSl (sz := 3) rfl rfl rfl rfl (by omega) h1) ?_
        conv => whnf
        refine runK_ret (ev_loadV (z := 1) rfl rfl rfl ((entriesA_cell hx 0 (by decide)).trans rfl)) ?_
        conv => whnf
        have hw : IntKind.wrap .i64 (i + 1) = i + 1 := wrap64 (by omega) (by omega)
        have hw2 : IntKind.wrap .i64 (s + (x.name.length : Int)) = s + x.name.length := wrap64 (by omega) (by omega)
        refine ih (IntKind.wrap .i64 (i + 1), IntKind.wrap .i64 (s + (x.name.length : Int))) _ ?_ ?_ (by kernel_rfl)
        · dsimp only
          rw [hw, hw2]
          refine ⟨by omega, by omega, by omega, by omega, fun _ => ?_⟩
          rw [show (i + 1).toNat = i.toNat + 1 by omega, sum_take _ hx, hI.2.2.2.2 h2]
          omega
        · dsimp only
          rw [hw]; omega
set_option maxHeartbeats 4000000 in
theorem nodeSize_c (m : Nat) (x : NodeS) (hok : x.ok) (hr : x.rng) :
    ∃ v', (∃ r : Int, v' = .int .i64 r ∧ 0 ≤ r ∧ r ≤ 1125899906842624 ∧ (r ≤ 1048576 → r = nodeSize x)) ∧ ∀ (from_ : FuncId) (h : H), evCall TE (m + 2) from_ (.fn 52 [] []) [.agg (nodeA x)] h = some (.ret v', h) := by
  have hb := fun (f : FuncId) (h : H) => bytesSize_c m f h x.data x.bytes hok.1
  have hbl := hr.bytesL
  have htl := hr.target
  have hel := hr.entsL
  obtain ⟨_, ⟨re, rfl, hr0, hr1, hr2⟩, he⟩ := entsSize_c m x.list x.ents hok.2 (fun e he => (hr.ents e he).1) (by omega)
  unfold nodeSize
  obtain ⟨kd, ge, mo, us, gr, li, rs, rn, ws, wn, ts, tn, da, by_, vf, ta, ls, es, pa, nx⟩ := x
  simp only [NodeS.ok, rowOk, entsOk] at hok
  obtain ⟨hd, hl⟩ := hok
  dsimp only at hb he hbl htl hel hr2 ⊢
  clear hr
  obtain ⟨bn, hbn⟩ : ∃ bn : Nat, by_.length = bn := ⟨_, rfl⟩
  rw [hbn] at hb hbl
  rw [hbn]
  clear hbn
  have hw0 : IntKind.wrap .i64 (1 + (ta.length : Int)) = 1 + ta.length := wrap64 (by omega) (by omega)
  have hw1 : IntKind.wrap .i64 (1 + (ta.length : Int) + (bn : Int)) = 1 + ta.length + bn := wrap64 (by omega) (by omega)
  have hw2 : IntKind.wrap .i64 (1 + (ta.length : Int) + (bn : Int) + re) = 1 + ta.length + bn + re := wrap64 (by omega) (by omega)
  rcases hd with ⟨rfl, rfl⟩ | ⟨dt, rfl⟩ <;> rcases hl with ⟨rfl, rfl⟩ | ⟨lt, rfl⟩
  all_goals
    refine call_cleanP (fn := Try.f52) rfl Try.func52 rfl (fun _ => rfl) rfl rfl (Nat.le_of_ble_eq_true rfl) ?_
    conv => whnf
    rw [hw0]
    cases h1 : decide (1 + (ta.length : Int) ≤ 1048576) with
    | false =>
      conv => whnf
      rw [h1]
      have h1 := of_decide_eq_false h1
      conv => whnf
      exact ⟨rfl, _, rfl, by omega, by omega, fun h => absurd h h1⟩
    | true =>
      have h1 := of_decide_eq_true h1
      conv => whnf
      refine ⟨_, _, hb _ _, ?_⟩
      conv => whnf
      rw [hw1]
      cases h2 : decide (1 + (ta.length : Int) + (bn : Int) ≤ 1048576) with
      | false =>
        have h2 := of_decide_eq_false h2
        conv => whnf
        exact ⟨rfl, _, rfl, by omega, by omega, fun h => absurd h h2⟩
      | true =>
        have h2 := of_decide_eq_true h2
        conv => whnf
        refine ⟨_, _, he _ _, ?_⟩
        conv => whnf
        rw [hw2]
        exact ⟨rfl, _, rfl, by omega, by omega, fun h => by rw [hr2 (by omega)]⟩
def nodesSS (l : List NodeS) (t : Bool) (p : Int × Int) : ST :=
  ⟨RG.of 25 [(4, .int .i64 p.1), (3, .int .i64 p.2), (0, .sl (nodesA l) l.length t)], ⟨[], []⟩⟩
set_option maxHeartbeats 1000000 in
theorem nodesSize_c (m : Nat) (v : AV) (l : List NodeS) (hv : nodesOk v l) (hok : ∀ x ∈ l, x.ok ∧ x.rng) (hl : l.length ≤ 140737488351232) :
    ∃ v', (∃ r : Int, v' = .int .i64 r ∧ 0 ≤ r ∧ r ≤ 2251799813685248 ∧ (r ≤ 1048576 → r = nodesSize l)) ∧ ∀ (from_ : FuncId) (h : H), evCall TE (m + 3) from_ (.fn 38 [] []) [v] h = some (.ret v', h) := by
  rcases hv with ⟨rfl, rfl⟩ | ⟨t, rfl⟩
  · refine ⟨_, ⟨0, rfl, by omega, by omega, fun _ => rfl⟩, fun from_ h => ?_⟩
    kernel_rfl
  · refine call_cleanP (fn := Try.f38) rfl Try.func38 rfl (fun _ => rfl) rfl rfl (Nat.le_of_ble_eq_true rfl) ?_
    conv => whnf
    refine ⟨l.length + 1, by show l.length + 1 ≤ 4611686018427387904; omega, ?_⟩
    refine rounds_ind (nodesSS l t) (fun p => 0 ≤ p.1 ∧ p.1 ≤ l.length ∧ 0 ≤ p.2 ∧ p.2 ≤ 2251799813685248 ∧ (p.2 ≤ 1048576 → p.2 = l.length + ((l.take p.1.toNat).map nodeSize).sum)) (fun p => (l.length - p.1).toNat) ?_ _ (0, l.length) _ ⟨by dsimp only; omega, by dsimp only; omega, by dsimp only; omega, by dsimp only; omega, fun _ => by simp⟩ (by simp) (by kernel_rfl)
    intro p m' hI ih
    obtain ⟨i, s⟩ := p
    dsimp only at hI ih ⊢
    conv => whnf
    cases h1 : decide (i < (l.length : Int)) with
    | false =>
      have h1 := of_decide_eq_false h1
      conv => whnf
      refine ⟨rfl, s, rfl, hI.2.2.1, hI.2.2.2.1, fun hs => ?_⟩
      rw [hI.2.2.2.2 hs, List.take_of_length_le (by omega)]
      rfl
    | true =>
      have h1 := of_decide_eq_true h1
      conv => whnf
      cases h2 : decide (s ≤ 1048576) with
      | false =>
        have h2 := of_decide_eq_false h2
        conv => whnf
        exact ⟨rfl, s, rfl, hI.2.2.1, hI.2.2.2.1, fun hs => absurd hs h2⟩
      | true =>
        have h2 := of_decide_eq_true h2
        obtain ⟨x, hx⟩ : ∃ x, l[i.toNat]? = some x := ⟨_, List.getElem?_eq_getElem (by omega)⟩
        have hxm := List.mem_of_getElem? hx
        obtain ⟨_, ⟨r, rfl, hr0, hr1, hr2⟩, hc⟩ := nodeSize_c m x (hok x hxm).1 (hok x hxm).2
        conv => whnf
        refine runK_ret (ev_indexSl (sz := 25) rfl rfl rfl rfl (by omega) h1) ?_
        conv => whnf
        have hlen : i.toNat * 25 + 25 ≤ (nodesA l).length := by rw [nodesA_len]; omega
        refine runK_ret (ev_loadVA (z := 25) rfl rfl rfl hlen (nodesA_node hx)) ?_
        conv => whnf
        refine ⟨_, _, hc _ _, ?_⟩
        conv => whnf
        have hw : IntKind.wrap .i64 (i + 1) = i + 1 := wrap64 (by omega) (by omega)
        have hw2 : IntKind.wrap .i64 (s + r) = s + r := wrap64 (by omega) (by omega)
        refine ih (IntKind.wrap .i64 (i + 1), IntKind.wrap .i64 (s + r)) _ ?_ ?_ (by kernel_rfl)
        · dsimp only
          rw [hw, hw2]
          refine ⟨by omega, by omega, by omega, by omega, fun _ => ?_⟩
          rw [show (i + 1).toNat = i.toNat + 1 by omega, sum_take _ hx, hI.2.2.2.2 h2, hr2 (by omega)]
          omega
        · dsimp only
          rw [hw]; omega
def treeSize (t : TreeS) : Int := 1 + nodesSize t.ns
theorem treeSize_c (m : Nat) (t : TreeS) (ht : t.ok) :
    ∃ v', (∃ r : Int, v' = .int .i64 r ∧ 0 ≤ r ∧ (r ≤ 1048576 → r = treeSize t)) ∧ ∀ (from_ : FuncId) (h : H), evCall TE (m + 4) from_ (.fn 11 [] []) [treeA t] h = some (.ret v', h) := by
  obtain ⟨_, ⟨r, rfl, hr0, hr1, hr2⟩, hc⟩ := nodesSize_c m t.v t.ns ht.v ht.ns ht.len
  have hv := ht.v
  obtain ⟨v, ns, gen⟩ := t
  dsimp only at hv hc hr2
  have hw : IntKind.wrap .i64 (1 + r) = 1 + r := wrap64 (by omega) (by omega)
  rcases hv with ⟨rfl, rfl⟩ | ⟨t, rfl⟩
  all_goals
    refine call_cleanP (fn := Try.f11) rfl Try.func11 rfl (fun _ => rfl) rfl rfl (Nat.le_of_ble_eq_true rfl) ?_
    conv => whnf
    refine ⟨_, _, hc _ _, ?_⟩
    conv => whnf
    rw [hw]
    exact ⟨rfl, _, rfl, by omega, fun h => by rw [hr2 (by omega)]; rfl⟩
end Go.Proofs.Ytlglhnadalbddaa.Ab
/- Over the engine: trees that come as arguments. -/
namespace Go.Proofs.Ytlglhnadalbddaa.Ab
open Go Go.RowKit

def timeTy : Ty := .seq [.int .u32, .int .u32]
def entryTy : Ty := .seq [.str, .int .i64, .int .u64]
def nodeTyL : List Ty := [.int .u32, .int .u32, .int .u32, .int .u32, .int .u32, .int .i64, timeTy, timeTy, timeTy, .sl 1 (.int .u8), .seq [.int .u8, .int .u8, .int .u8, .int .u8, .int .u8, .int .u8, .int .u8, .int .u8], .str, .sl 32 entryTy, .int .i64, .int .u64]
def nodeTy (B : Nat) : Ty := .sl B (.seq nodeTyL)
theorem rows_of {α : Type} (f : α → List AV) (P : α → Prop) : ∀ rows : List (List AV), (∀ r ∈ rows, ∃ x, r = f x ∧ P x) → ∃ l : List α, rows = l.map f ∧ ∀ x ∈ l, P x
  | [], _ => ⟨[], rfl, fun x h => by cases h⟩
  | r :: rows, h => by
    obtain ⟨x, hx, hp⟩ := h r (List.mem_cons_self ..)
    obtain ⟨l, hl, hP⟩ := rows_of f P rows fun r hr => h r (List.mem_cons_of_mem _ hr)
    exact ⟨x :: l, by rw [hx, hl]; rfl, fun y hy => by
      rcases List.mem_cons.1 hy with rfl | hy
      · exact hp
      · exact hP y hy⟩
theorem wf_u8 {x : Int} (h : (Lit.int .u8 x).wf = true) : 0 ≤ x ∧ x < 256 := by
  simp only [Lit.wf, Bool.and_eq_true, decide_eq_true_eq] at h
  rw [show IntKind.u8.min = 0 from rfl, show IntKind.u8.max = 255 from rfl] at h
  omega
theorem wf_i64 {x : Int} (h : (Lit.int .i64 x).wf = true) : -9223372036854775808 ≤ x ∧ x < 9223372036854775808 := by
  simp only [Lit.wf, Bool.and_eq_true, decide_eq_true_eq] at h
  rw [show IntKind.i64.min = -9223372036854775808 from rfl, show IntKind.i64.max = 9223372036854775807 from rfl] at h
  omega
theorem wf_u64 {x : Int} (h : (Lit.int .u64 x).wf = true) : 0 ≤ x ∧ x < 18446744073709551616 := by
  simp only [Lit.wf, Bool.and_eq_true, decide_eq_true_eq] at h
  rw [show IntKind.u64.min = 0 from rfl, show IntKind.u64.max = 18446744073709551615 from rfl] at h
  omega
theorem nums_flat (k : IntKind) : ∀ l : List Int, (l.map fun n : Int => [AV.int k n]).flatten = numsA k l
  | [] => rfl
  | n :: l => by
    rw [List.map_cons, List.flatten_cons, nums_flat k l]
    rfl
theorem sh_row {k : IntKind} {B : Nat} {v : AV} (h : Sh (.sl B (.int k)) [v]) : ∃ l, rowOk k v l ∧ (∀ n ∈ l, (Lit.int k n).wf = true) ∧ l.length * B ≤ 140737488351232 := by
  unfold Sh at h
  rcases h with h | ⟨rows, t, h, hr, hB, _⟩
  · cases h
    refine ⟨[], .inl ⟨rfl, rfl⟩, ?_, Nat.le_trans (Nat.le_of_eq (Nat.zero_mul _)) (Nat.zero_le _)⟩
    intro n hn
    cases hn
  · cases h
    obtain ⟨l, rfl, hl⟩ := rows_of (fun n : Int => [AV.int k n]) (fun n => (Lit.int k n).wf = true) rows fun r hr' => by
      have := hr r hr'
      unfold Sh at this
      exact this
    refine ⟨l, .inr ⟨t, ?_⟩, hl, by simpa using hB⟩
    rw [nums_flat, List.length_map]
theorem sh_ents {v : AV} (h : Sh (.sl 32 entryTy) [v]) : ∃ l, entsOk v l ∧ (∀ e ∈ l, e.name.length ≤ 140737488351232 ∧ (-9223372036854775808 ≤ e.node ∧ e.node < 9223372036854775808) ∧ 0 ≤ e.cookie ∧ e.cookie < 18446744073709551616) ∧ l.length * 32 ≤ 140737488351232 := by
  unfold Sh at h
  rcases h with h | ⟨rows, t, h, hr, hB, _⟩
  · cases h
    refine ⟨[], .inl ⟨rfl, rfl⟩, ?_, Nat.le_trans (Nat.le_of_eq (Nat.zero_mul _)) (Nat.zero_le _)⟩
    intro n hn
    cases hn
  · cases h
    obtain ⟨l, rfl, hl⟩ := rows_of entryA (fun e => e.name.length ≤ 140737488351232 ∧ (-9223372036854775808 ≤ e.node ∧ e.node < 9223372036854775808) ∧ 0 ≤ e.cookie ∧ e.cookie < 18446744073709551616) rows fun r hr' => by
      have := hr r hr'
      simp only [entryTy, Sh, ShL] at this
      obtain ⟨_, _, rfl, ⟨s, rfl, hs⟩, _, _, rfl, ⟨n, rfl, hn⟩, _, _, rfl, ⟨c, rfl, hc⟩, rfl⟩ := this
      exact ⟨⟨s, n, c⟩, rfl, hs, wf_i64 hn, wf_u64 hc⟩
    exact ⟨l, .inr ⟨t, by rw [List.length_map]; rfl⟩, hl, by simpa using hB⟩
theorem sh_node {r : List AV} (h : Sh (.seq nodeTyL) r) : ∃ x : NodeS, r = nodeA x ∧ x.ok ∧ x.rng := by
  unfold Sh nodeTyL timeTy at h
  simp only [ShL] at h
  obtain ⟨_, _, rfl, a0, _, _, rfl, a1, _, _, rfl, a2, _, _, rfl, a3, _, _, rfl, a4, _, _, rfl, a5, _, _, rfl, a6, _, _, rfl, a7, _, _, rfl, a8, _, _, rfl, a9, _, _, rfl, a10, _, _, rfl, a11, _, _, rfl, a12, _, _, rfl, a13, _, _, rfl, a14, rfl⟩ := h
  have row1 : ∀ {B : Nat} {e : Ty} {as_ : List AV}, Sh (.sl B e) as_ → ∃ v, as_ = [v] := by
    intro B e as_ h
    unfold Sh at h
    rcases h with rfl | ⟨_, _, rfl, _⟩ <;> exact ⟨_, rfl⟩
  obtain ⟨da, rfl⟩ := row1 a9
  obtain ⟨ls, rfl⟩ := row1 a12
  obtain ⟨by_, hb1, hb2, hb3⟩ := sh_row a9
  obtain ⟨es, he1, he2, he3⟩ := sh_ents a12
  simp only [Sh, ShL] at a0 a1 a2 a3 a4 a5 a6 a7 a8 a10 a11 a13 a14
  obtain ⟨kd, rfl, w0⟩ := a0
  obtain ⟨ge, rfl, w1⟩ := a1
  obtain ⟨mo, rfl, w2⟩ := a2
  obtain ⟨us, rfl, w3⟩ := a3
  obtain ⟨gr, rfl, w4⟩ := a4
  obtain ⟨li, rfl, w5⟩ := a5
  obtain ⟨_, _, rfl, ⟨rs, rfl, w6⟩, _, _, rfl, ⟨rn, rfl, w7⟩, rfl⟩ := a6
  obtain ⟨_, _, rfl, ⟨ws, rfl, w8⟩, _, _, rfl, ⟨wn, rfl, w9⟩, rfl⟩ := a7
  obtain ⟨_, _, rfl, ⟨ts, rfl, w10⟩, _, _, rfl, ⟨tn, rfl, w11⟩, rfl⟩ := a8
  obtain ⟨_, _, rfl, ⟨v0, rfl, x0⟩, _, _, rfl, ⟨v1, rfl, x1⟩, _, _, rfl, ⟨v2, rfl, x2⟩, _, _, rfl, ⟨v3, rfl, x3⟩, _, _, rfl, ⟨v4, rfl, x4⟩, _, _, rfl, ⟨v5, rfl, x5⟩, _, _, rfl, ⟨v6, rfl, x6⟩, _, _, rfl, ⟨v7, rfl, x7⟩, rfl⟩ := a10
  obtain ⟨ta, rfl, w12⟩ := a11
  obtain ⟨pa, rfl, w13⟩ := a13
  obtain ⟨nx, rfl, w14⟩ := a14
  refine ⟨⟨kd, ge, mo, us, gr, li, rs, rn, ws, wn, ts, tn, da, by_, fun i => match i with | 0 => v0 | 1 => v1 | 2 => v2 | 3 => v3 | 4 => v4 | 5 => v5 | 6 => v6 | _ => v7, ta, ls, es, pa, nx⟩, rfl, ⟨hb1, he1⟩, ?_⟩
  refine ⟨wf_u32 w0, wf_u32 w1, wf_u32 w2, wf_u32 w3, wf_u32 w4, wf_i64 w5, wf_u32 w6, wf_u32 w7, wf_u32 w8, wf_u32 w9, wf_u32 w10, wf_u32 w11, fun b hb => wf_u8 (hb2 b hb), by simpa using hb3, fun i hi => ?_, w12, he2, he3, wf_i64 w13, wf_u64 w14⟩
  obtain rfl | rfl | rfl | rfl | rfl | rfl | rfl | rfl : i = 0 ∨ i = 1 ∨ i = 2 ∨ i = 3 ∨ i = 4 ∨ i = 5 ∨ i = 6 ∨ i = 7 := by omega
  · exact wf_u8 x0
  · exact wf_u8 x1
  · exact wf_u8 x2
  · exact wf_u8 x3
  · exact wf_u8 x4
  · exact wf_u8 x5
  · exact wf_u8 x6
  · exact wf_u8 x7
theorem sh_nodes {B : Nat} {v : AV} (hB : 0 < B) (h : Sh (nodeTy B) [v]) : ∃ ns, nodesOk v ns ∧ (∀ x ∈ ns, x.ok ∧ x.rng) ∧ ns.length ≤ 140737488351232 := by
  unfold nodeTy Sh at h
  rcases h with h | ⟨rows, t, h, hr, hb, _⟩
  · cases h
    refine ⟨[], .inl ⟨rfl, rfl⟩, ?_, Nat.zero_le _⟩
    intro x hx
    cases hx
  · cases h
    obtain ⟨l, rfl, hl⟩ := rows_of nodeA (fun x => x.ok ∧ x.rng) rows fun r hr' => sh_node (hr r hr')
    refine ⟨l, .inr ⟨t, by rw [List.length_map]; rfl⟩, hl, ?_⟩
    rw [List.length_map] at hb
    exact Nat.le_trans (Nat.le_mul_of_pos_right _ hB) hb
def treeTyL (B : Nat) : List Ty := [nodeTy B, .int .u32]
theorem sh_tree {B : Nat} (hB : 0 < B) {r : List AV} (h : ShL (treeTyL B) r) : ∃ t : TreeS, r = [t.v, .int .u32 t.gen] ∧ t.ok := by
  unfold treeTyL at h
  simp only [ShL] at h
  obtain ⟨_, _, rfl, a0, _, _, rfl, a1, rfl⟩ := h
  obtain ⟨v, rfl⟩ : ∃ v, _ = [v] := by
    have := a0
    unfold nodeTy Sh at this
    rcases this with h | ⟨_, _, h, _⟩ <;> exact ⟨_, h⟩
  obtain ⟨ns, h1, h2, h3⟩ := sh_nodes hB a0
  unfold Sh at a1
  obtain ⟨g, rfl, hg⟩ := a1
  exact ⟨⟨v, ns, g⟩, rfl, h1, h2, h3, wf_u32 hg⟩
def credTyL : List Ty := [.int .u32, .int .u32, .sl 4 (.int .u32)]
theorem sh_cred {r : List AV} (h : ShL credTyL r) : ∃ c : CredS, r = [.int .u32 c.user, .int .u32 c.group, c.gs] ∧ c.ok ∧ (0 ≤ c.user ∧ c.user < 4294967296) ∧ (0 ≤ c.group ∧ c.group < 4294967296) ∧ c.l.length * 4 ≤ 140737488351232 ∧ ∀ n ∈ c.l, 0 ≤ n ∧ n < 4294967296 := by
  unfold credTyL at h
  simp only [ShL] at h
  obtain ⟨_, _, rfl, a0, _, _, rfl, a1, _, _, rfl, a2, rfl⟩ := h
  obtain ⟨v, rfl⟩ : ∃ v, _ = [v] := by
    have := a2
    unfold Sh at this
    rcases this with h | ⟨_, _, h, _⟩ <;> exact ⟨_, h⟩
  obtain ⟨l, h1, h2, h3⟩ := sh_row a2
  unfold Sh at a0 a1
  obtain ⟨u, rfl, hu⟩ := a0
  obtain ⟨g, rfl, hg⟩ := a1
  exact ⟨⟨u, g, v, l⟩, rfl, ⟨h1, by dsimp only; omega⟩, wf_u32 hu, wf_u32 hg, h3, fun n hn => wf_u32 (h2 n hn)⟩
end Go.Proofs.Ytlglhnadalbddaa.Ab
/- Over the engine: may a tree be. -/
namespace Go.Proofs.Ytlglhnadalbddaa.Ab
open Go Go.RowKit

/-- What is asked of a node, that nodes.Check may be walked. -/
structure NodeS.few (x : NodeS) : Prop where
  target : x.target.length ≤ 140737488351232
  ents : ∀ e ∈ x.ents, e.name.length ≤ 140737488351232
  entsL : x.ents.length * 32 ≤ 140737488351232
theorem NodeS.rng.few {x : NodeS} (h : x.rng) : x.few := ⟨h.target, fun e he => (h.ents e he).1, h.entsL⟩
set_option maxRecDepth 100000
theorem timesC_c (m : Nat) (from_ : FuncId) (h : H) (s n : Int) : evCall TE (m + 1) from_ (.fn 18 [] []) [.agg [.int .u32 s, .int .u32 n]] h = some (.ret (.bool (decide (n < 1000000000))), h) := by
  refine call_clean (fn := Try.f18) rfl Try.func18 rfl rfl rfl rfl rfl (Nat.le_of_ble_eq_true rfl) ?_
  conv => whnf
/-- Numbers that were counted once each. -/
def gensA (g : List Int) : List (AV × AV) := g.map fun n => (.int .u32 n, .int .i64 1)
def isGen (g : List Int) (n : Int) : Bool := g.any fun k => n == k
theorem gen_none : ∀ (g : List Int) (n : Int) (i : Nat), isGen g n = false → findA (.int .u32 n) (gensA g) i = some none
  | [], _, _, _ => rfl
  | k :: r, n, i, h => by
    unfold isGen at h
    rw [List.any_cons, Bool.or_eq_false_iff] at h
    show (match sameCell (.int .u32 n) (.int .u32 k) with | some true => _ | some false => _ | none => _) = _
    simp only [sameCell, h.1, if_true]
    exact gen_none r n (i + 1) h.2
theorem gen_some : ∀ (g : List Int) (n : Int) (i : Nat), isGen g n = true → ∃ k, findA (.int .u32 n) (gensA g) i = some (some (i + k, .int .i64 1)) ∧ ∀ w, findA (.int .u32 n) ((gensA g).modify k fun e => (e.1, w)) i = some (some (i + k, w))
  | [], _, _, h => by simp [isGen] at h
  | a :: r, n, i, h => by
    unfold isGen at h
    rw [List.any_cons] at h
    cases hb : n == a with
    | true =>
      refine ⟨0, ?_, fun w => ?_⟩
      · show (match sameCell (.int .u32 n) (.int .u32 a) with | some true => _ | some false => _ | none => _) = _
        simp only [sameCell, hb, if_true]
        rfl
      · show (match sameCell (.int .u32 n) (.int .u32 a) with | some true => _ | some false => _ | none => _) = _
        simp only [sameCell, hb, if_true]
        rfl
    | false =>
      rw [hb, Bool.false_or] at h
      obtain ⟨k, h1, h2⟩ := gen_some r n (i + 1) h
      refine ⟨k + 1, ?_, fun w => ?_⟩
      · show (match sameCell (.int .u32 n) (.int .u32 a) with | some true => _ | some false => _ | none => _) = _
        simp only [sameCell, hb, if_true]
        rw [show i + (k + 1) = i + 1 + k by omega]
        exact h1
      · show (match sameCell (.int .u32 n) (.int .u32 a) with | some true => _ | some false => _ | none => _) = _
        simp only [sameCell, hb, if_true]
        rw [show i + (k + 1) = i + 1 + k by omega]
        exact h2 w
theorem gen_last : ∀ (g : List Int) (n : Int) (i : Nat) (w : AV), isGen g n = false → findA (.int .u32 n) (gensA g ++ [(.int .u32 n, w)]) i = some (some (i + g.length, w))
  | [], n, i, w, _ => by
    show (match sameCell (.int .u32 n) (.int .u32 n) with | some true => _ | some false => _ | none => _) = _
    simp only [sameCell, beq_self_eq_true, if_true]
    rfl
  | a :: r, n, i, w, h => by
    unfold isGen at h
    rw [List.any_cons, Bool.or_eq_false_iff] at h
    show (match sameCell (.int .u32 n) (.int .u32 a) with | some true => _ | some false => _ | none => _) = _
    simp only [sameCell, h.1, if_true]
    rw [List.length_cons, show i + (r.length + 1) = i + 1 + r.length by omega]
    exact gen_last r n (i + 1) w h.2
theorem gens_top : ∀ g : List Int, topL ((gensA g).map (·.1)) = 0 ∧ topL ((gensA g).map (·.2)) = 0
  | [] => ⟨rfl, rfl⟩
  | e :: r => by
    obtain ⟨h1, h2⟩ := gens_top r
    constructor
    · show max 0 (topL ((gensA r).map (·.1))) = 0
      rw [h1]
      rfl
    · show max 0 (topL ((gensA r).map (·.2))) = 0
      rw [h2]
      rfl
theorem gmod_top (g : List Int) : ∀ k : Nat, (AB.map ((gensA g).modify k fun e => (e.1, .int .i64 2))).top = 0 := by
  intro k
  refine map_top ?_ ?_
  · induction g generalizing k with
    | nil => cases k <;> rfl
    | cons e r ih =>
      cases k with
      | zero =>
        show max 0 (topL ((gensA r).map (·.1))) = 0
        rw [(gens_top r).1]
        rfl
      | succ k =>
        show max 0 (topL (((gensA r).modify k fun e => (e.1, .int .i64 2)).map (·.1))) = 0
        rw [ih k]
        rfl
  · induction g generalizing k with
    | nil => cases k <;> rfl
    | cons e r ih =>
      cases k with
      | zero =>
        show max 0 (topL ((gensA r).map (·.2))) = 0
        rw [(gens_top r).2]
        rfl
      | succ k =>
        show max 0 (topL (((gensA r).modify k fun e => (e.1, .int .i64 2)).map (·.2))) = 0
        rw [ih k]
        rfl
/-- What is counted: how often each node is named, of how many directories, and where. -/
structure Cnt where
  named : List Int
  subs : List Int
  home : List Int
def bump (l : List Int) (k : Int) : List Int := l.set k.toNat (IntKind.wrap .i64 ((l[k.toNat]?).getD 0 + 1))
def stepE (ns : List NodeS) (i : Int) (c : Cnt) (e : EntryS) : Cnt := ⟨bump c.named e.node, if dirS ns e.node = true then bump c.subs i else c.subs, c.home.set e.node.toNat i⟩
def cntE (ns : List NodeS) (i : Int) : Cnt → List EntryS → Cnt
  | c, [] => c
  | c, e :: r => cntE ns i (stepE ns i c e) r
def Cnt.len (c : Cnt) (n : Nat) : Prop := c.named.length = n ∧ c.subs.length = n ∧ c.home.length = n
theorem bump_len (l : List Int) (k : Int) : (bump l k).length = l.length := by unfold bump; rw [List.length_set]
theorem stepE_len {ns : List NodeS} {i : Int} {c : Cnt} {e : EntryS} {n : Nat} (h : c.len n) : (stepE ns i c e).len n := by
  refine ⟨?_, ?_, ?_⟩
  · show (bump c.named e.node).length = n
    rw [bump_len]; exact h.1
  · show (if dirS ns e.node = true then bump c.subs i else c.subs).length = n
    split
    · rw [bump_len]; exact h.2.1
    · exact h.2.1
  · show (c.home.set e.node.toNat i).length = n
    rw [List.length_set]; exact h.2.2
theorem cntE_len {ns : List NodeS} {i : Int} {n : Nat} : ∀ (l : List EntryS) (c : Cnt), c.len n → (cntE ns i c l).len n
  | [], _, h => h
  | e :: r, c, h => cntE_len r _ (stepE_len h)
theorem cntE_drop {ns : List NodeS} {i : Int} {l : List EntryS} {j : Nat} {e : EntryS} {c : Cnt} (h : l[j]? = some e) : cntE ns i c (l.drop j) = cntE ns i (stepE ns i c e) (l.drop (j + 1)) := by
  obtain ⟨h1, rfl⟩ := List.getElem?_eq_some_iff.1 h
  rw [List.drop_eq_getElem_cons h1, cntE]
/-- What is bad about a node, ahead of what is counted. -/
def nodeBad (ns : List NodeS) (tg : Int) (g : List Int) (x : NodeS) : Bool :=
  decide (x.gen ≥ tg) || (isGen g x.gen || (decide (x.mode > 4095) || (!decide (x.rn < 1000000000) || (!decide (x.wn < 1000000000) || (!decide (x.tn < 1000000000) || (x.kind == 2 && !entriesS ns x))))))
def pass1 (ns : List NodeS) (tg : Int) : List NodeS → Int → List Int → Cnt → Option Cnt
  | [], _, _, c => some c
  | x :: r, i, g, c => if (x.kind != 0) = true then if nodeBad ns tg g x = true then none else pass1 ns tg r (i + 1) (g ++ [x.gen]) (cntE ns i c x.ents) else pass1 ns tg r (i + 1) g c
def at0 (l : List Int) (i : Int) : Int := (l[i.toNat]?).getD 0
def nodeBad2 (ns : List NodeS) (c : Cnt) (i : Int) (x : NodeS) : Bool :=
  if (x.kind == 2) = true then x.links != IntKind.wrap .i64 (2 + at0 c.subs i) || (decide (i > 1) && (at0 c.named i != 1 || (at0 c.home i != x.parent || !withinS ns 1 (ns.length + 1) i)))
  else x.links != at0 c.named i || (decide (at0 c.named i < 1) || decide (at0 c.named i > 200))
def pass2 (ns : List NodeS) (c : Cnt) : List NodeS → Int → Bool
  | [], _ => true
  | x :: r, i => if (x.kind != 0) = true then if nodeBad2 ns c i x = true then false else pass2 ns c r (i + 1) else pass2 ns c r (i + 1)
def cnt0 (n : Nat) : Cnt := ⟨List.replicate n 0, List.replicate n 0, List.replicate n 0⟩
def preBad (ns : List NodeS) : Bool := decide ((ns.length : Int) < 2) || (decide ((ns.length : Int) > 1025) || ((kindS ns 0 != 0) || (!dirS ns 1 || ((parentS ns 1 != 1) || !thereS ns (ns.length - 1)))))
/-- May a tree be? -/
def checkS (ns : List NodeS) (tg : Int) : Bool := !preBad ns && (!anyBad ns && (match pass1 ns tg ns 0 [] (cnt0 ns.length) with
  | some c => pass2 ns c ns 0
  | none => false))
theorem pass1_drop {ns : List NodeS} {tg : Int} {l : List NodeS} {i : Int} {x : NodeS} {g : List Int} {c : Cnt} (h0 : 0 ≤ i) (h : l[i.toNat]? = some x) : pass1 ns tg (l.drop i.toNat) i g c = if (x.kind != 0) = true then if nodeBad ns tg g x = true then none else pass1 ns tg (l.drop (i + 1).toNat) (i + 1) (g ++ [x.gen]) (cntE ns i c x.ents) else pass1 ns tg (l.drop (i + 1).toNat) (i + 1) g c := by
  obtain ⟨h1, rfl⟩ := List.getElem?_eq_some_iff.1 h
  rw [List.drop_eq_getElem_cons h1, pass1, show (i + 1).toNat = i.toNat + 1 by omega]
theorem pass2_drop {ns : List NodeS} {l : List NodeS} {i : Int} {x : NodeS} {c : Cnt} (h0 : 0 ≤ i) (h : l[i.toNat]? = some x) : pass2 ns c (l.drop i.toNat) i = if (x.kind != 0) = true then if nodeBad2 ns c i x = true then false else pass2 ns c (l.drop (i + 1).toNat) (i + 1) else pass2 ns c (l.drop (i + 1).toNat) (i + 1) := by
  obtain ⟨h1, rfl⟩ := List.getElem?_eq_some_iff.1 h
  rw [List.drop_eq_getElem_cons h1, pass2, show (i + 1).toNat = i.toNat + 1 by omega]
theorem only_list {x : NodeS} (h : onlyS x = true) (hk : (x.kind == 2) = false) : x.ents = [] := by
  have hl : listO x = true := by
    unfold onlyS at h
    cases h0 : (x.kind == 0) <;> cases h1 : (x.kind == 1) <;> cases h5 : (x.kind == 5) <;> simp_all
  unfold listO at hl
  rw [Bool.and_eq_true] at hl
  have := hl.1
  rw [beq_iff_eq] at this
  exact List.length_eq_zero_iff.1 (by omega)
theorem ents_there {ns : List NodeS} {nx : Int} : ∀ (l prev : List EntryS) (la : Int), entsBad ns nx prev la l = false → ∀ e ∈ l, thereS ns e.node = true
  | [], _, _, _, e, he => by cases he
  | a :: r, prev, la, h, e, he => by
    rw [entsBad, Bool.or_eq_false_iff] at h
    rcases List.mem_cons.1 he with rfl | he
    · have h1 := h.1
      unfold entBad at h1
      simp only [Bool.or_eq_false_iff, Bool.not_eq_false'] at h1
      exact h1.2.2.2.2.2.2.2
    · exact ents_there r _ _ h.2 e he
theorem entries_there {ns : List NodeS} {d : NodeS} (h : entriesS ns d = true) : ∀ e ∈ d.ents, thereS ns e.node = true := by
  unfold entriesS at h
  rw [Bool.and_eq_true, Bool.not_eq_true'] at h
  exact ents_there d.ents [] 2 (by simpa using h.2)
theorem gensA_app (g : List Int) (n : Int) : gensA (g ++ [n]) = gensA g ++ [(.int .u32 n, .int .i64 1)] := by simp [gensA]
theorem ints_put {l : List Int} {k : Nat} {v : Int} (h : k < l.length) : splice (numsA .i64 l) (0 + k * 1) [.int .i64 v] = numsA .i64 (l.set k v) := by
  have := splice_rows (f := fun n : Int => [AV.int .i64 n]) (z := 1) (fun _ => rfl) (l := l) (i := k) (x := l[k]) (x' := v) (k := 0) (vs := [.int .i64 v]) (List.getElem?_eq_getElem h) (Nat.le_refl 1) rfl
  rw [nums_flat, nums_flat, Nat.add_zero] at this
  rw [Nat.zero_add]
  exact this
theorem ints_get {l : List Int} {k : Nat} (h : k < l.length) : (numsA .i64 l)[0 + k * 1]? = some (.int .i64 ((l[k]?).getD 0)) := by
  rw [Nat.zero_add, Nat.mul_one, numsA, List.getElem?_map, List.getElem?_eq_getElem h]
  rfl
theorem nodeA_one {x : NodeS} (hx : x.ok) : oneL (nodeA x) = true := by
  obtain ⟨kd, ge, mo, us, ng, li, xrs, xrn, xws, xwn, ts, tn, da, by_, vf, ta, ls, es, pa, nx⟩ := x
  simp only [NodeS.ok, rowOk, entsOk] at hx
  obtain ⟨hd, hl⟩ := hx
  rcases hd with ⟨rfl, rfl⟩ | ⟨dt, rfl⟩ <;> rcases hl with ⟨rfl, rfl⟩ | ⟨lt, rfl⟩ <;> rfl
theorem nodeA_top0 {x : NodeS} (hx : x.ok) : topL (nodeA x) = 0 := by
  obtain ⟨kd, ge, mo, us, ng, li, xrs, xrn, xws, xwn, ts, tn, da, by_, vf, ta, ls, es, pa, nx⟩ := x
  simp only [NodeS.ok, rowOk, entsOk] at hx
  obtain ⟨hd, hl⟩ := hx
  rcases hd with ⟨rfl, rfl⟩ | ⟨dt, rfl⟩ <;> rcases hl with ⟨rfl, rfl⟩ | ⟨lt, rfl⟩ <;> rfl
theorem ints_len (l : List Int) : (numsA .i64 l).length = l.length := by simp [numsA]
theorem rep_ints (n : Nat) : repCells n [.int .i64 0] = numsA .i64 (List.replicate n 0) := by
  unfold numsA
  rw [List.map_replicate]
  rfl
end Go.Proofs.Ytlglhnadalbddaa.Ab
/- Over the engine: what a tree that may be has, in plain words. -/
namespace Go.Proofs.Ytlglhnadalbddaa.Ab
open Go Go.RowKit

theorem anyBad_of {ns : List NodeS} {x : NodeS} (hx : x ∈ ns) (h : onlyS x = false) : anyBad ns = true := by
  unfold anyBad
  exact List.any_eq_true.2 ⟨x, hx, by rw [h]; rfl⟩
theorem checkS_any {ns : List NodeS} {tg : Int} (h : anyBad ns = true) : checkS ns tg = false := by
  unfold checkS
  rw [h]
  simp
theorem checkS_pass1 {ns : List NodeS} {tg : Int} (h : pass1 ns tg ns 0 [] (cnt0 ns.length) = none) : checkS ns tg = false := by
  unfold checkS
  rw [h]
  simp
theorem checkS_pass2 {ns : List NodeS} {tg : Int} {c : Cnt} (h : pass1 ns tg ns 0 [] (cnt0 ns.length) = some c) (h2 : pass2 ns c ns 0 = false) : checkS ns tg = false := by
  unfold checkS
  rw [h]
  simp [h2]
theorem checkS_has {ns : List NodeS} {tg : Int} (h : checkS ns tg = true) : preBad ns = false ∧ anyBad ns = false ∧ ∃ c, pass1 ns tg ns 0 [] (cnt0 ns.length) = some c ∧ pass2 ns c ns 0 = true := by
  unfold checkS at h
  rw [Bool.and_eq_true, Bool.and_eq_true, Bool.not_eq_true', Bool.not_eq_true'] at h
  refine ⟨h.1, h.2.1, ?_⟩
  cases hp : pass1 ns tg ns 0 [] (cnt0 ns.length) with
  | none => rw [hp] at h; simp at h
  | some c =>
    rw [hp] at h
    exact ⟨c, rfl, h.2.2⟩
/-- A node that is bad whatever was counted. -/
theorem pass1_bad {ns : List NodeS} {tg : Int} : ∀ (l : List NodeS) (i : Int) (g : List Int) (c : Cnt), (∃ x, x ∈ l ∧ (x.kind != 0) = true ∧ ∀ g, nodeBad ns tg g x = true) → pass1 ns tg l i g c = none
  | [], _, _, _, ⟨x, hx, _⟩ => by cases hx
  | y :: r, i, g, c, ⟨x, hx, hk, hb⟩ => by
    rw [pass1]
    rcases List.mem_cons.1 hx with rfl | hx
    · rw [if_pos hk, if_pos (hb g)]
    · split
      · split
        · rfl
        · exact pass1_bad r _ _ _ ⟨x, hx, hk, hb⟩
      · exact pass1_bad r _ _ _ ⟨x, hx, hk, hb⟩
theorem isGen_app {g : List Int} {n k : Int} (h : isGen g n = true) : isGen (g ++ [k]) n = true := by
  unfold isGen at *
  rw [List.any_append, h, Bool.true_or]
theorem nodeBad_gen {ns : List NodeS} {tg : Int} {g : List Int} {x : NodeS} (h : isGen g x.gen = true) : nodeBad ns tg g x = true := by
  unfold nodeBad
  rw [h, Bool.true_or, Bool.or_true]
/-- A node whose Gen was seen. -/
theorem pass1_gen {ns : List NodeS} {tg : Int} : ∀ (l : List NodeS) (i : Int) (g : List Int) (c : Cnt), (∃ x, x ∈ l ∧ (x.kind != 0) = true ∧ isGen g x.gen = true) → pass1 ns tg l i g c = none
  | [], _, _, _, ⟨x, hx, _⟩ => by cases hx
  | y :: r, i, g, c, ⟨x, hx, hk, hb⟩ => by
    rw [pass1]
    rcases List.mem_cons.1 hx with rfl | hx
    · rw [if_pos hk, if_pos (nodeBad_gen hb)]
    · split
      · split
        · rfl
        · exact pass1_gen r _ _ _ ⟨x, hx, hk, isGen_app hb⟩
      · exact pass1_gen r _ _ _ ⟨x, hx, hk, hb⟩
/-- Two nodes of one Gen. -/
theorem pass1_dup {ns : List NodeS} {tg : Int} : ∀ (l : List NodeS) (i : Int) (g : List Int) (c : Cnt) (a b : List NodeS) (y x : NodeS), l = a ++ y :: b → x ∈ b → (y.kind != 0) = true → (x.kind != 0) = true → x.gen = y.gen → pass1 ns tg l i g c = none
  | _, i, g, c, [], b, y, x, rfl, hx, hy, hk, he => by
    rw [List.nil_append, pass1, if_pos hy]
    split
    · rfl
    · exact pass1_gen b _ _ _ ⟨x, hx, hk, by unfold isGen; rw [List.any_append, he]; simp⟩
  | _, i, g, c, z :: a, b, y, x, rfl, hx, hy, hk, he => by
    rw [List.cons_append, pass1]
    split
    · split
      · rfl
      · exact pass1_dup _ _ _ _ a b y x rfl hx hy hk he
    · exact pass1_dup _ _ _ _ a b y x rfl hx hy hk he
/-- A node that is bad by what was counted. -/
theorem pass2_bad {ns : List NodeS} {c : Cnt} : ∀ (l : List NodeS) (i : Int) (k : Nat) (x : NodeS), l[k]? = some x → (x.kind != 0) = true → nodeBad2 ns c (i + k) x = true → pass2 ns c l i = false
  | [], _, k, x, h, _, _ => by simp at h
  | y :: r, i, 0, x, h, hk, hb => by
    simp at h
    subst h
    rw [pass2, if_pos hk, if_pos (by simpa using hb)]
  | y :: r, i, k + 1, x, h, hk, hb => by
    have ih := pass2_bad r (i + 1) k x (by simpa using h) hk (by rw [show i + 1 + (k : Int) = i + ((k + 1 : Nat) : Int) by omega]; exact hb)
    rw [pass2]
    split
    · split
      · rfl
      · exact ih
    · exact ih
theorem pass2_good {ns : List NodeS} {c : Cnt} : ∀ (l : List NodeS) (i : Int) (k : Nat) (x : NodeS), pass2 ns c l i = true → l[k]? = some x → (x.kind != 0) = true → nodeBad2 ns c (i + k) x = false := by
  intro l i k x h hx hk
  cases hb : nodeBad2 ns c (i + k) x with
  | false => rfl
  | true => rw [pass2_bad l i k x hx hk hb] at h; cases h
/-- Whoever is its own parent is in no other directory. -/
theorem within_self {ns : List NodeS} {top d : Int} (hp : parentS ns d = d) (ht : (d == top) = false) : ∀ k, withinS ns top k d = false
  | 0 => rfl
  | k + 1 => by
    rw [withinS, ht]
    split
    · rw [if_neg (fun h => Bool.noConfusion h)]
      split
      · rfl
      · rw [hp]
        exact within_self hp ht k
    · rfl
end Go.Proofs.Ytlglhnadalbddaa.Ab
/- Over the engine: a node that is turned, but for its kind. -/
namespace Go.Proofs.Ytlglhnadalbddaa.Ab
open Go Go.RowKit

section
variable {ns : List NodeS} {n : Nat} {x x' : NodeS} (hx : ns[n]? = some x) (hk : x'.kind = x.kind)
include hx hk
theorem kindS_set (d : Int) : kindS (ns.set n x') d = kindS ns d := by
  obtain ⟨h1, _⟩ := List.getElem?_eq_some_iff.1 hx
  unfold kindS
  by_cases hd : n = d.toNat
  · subst hd
    rw [List.getElem?_set_self h1, hx]
    exact hk
  · rw [List.getElem?_set_ne hd]
theorem thereS_set (d : Int) : thereS (ns.set n x') d = thereS ns d := by
  unfold thereS
  rw [kindS_set hx hk, List.length_set]
theorem dirS_set (d : Int) : dirS (ns.set n x') d = dirS ns d := by
  unfold dirS
  rw [thereS_set hx hk, kindS_set hx hk]
theorem entBad_set (next : Int) (prev : List EntryS) (la : Int) (e : EntryS) : entBad (ns.set n x') next prev la e = entBad ns next prev la e := by
  unfold entBad
  rw [thereS_set hx hk]
theorem entsBad_set (next : Int) : ∀ (l prev : List EntryS) (la : Int), entsBad (ns.set n x') next prev la l = entsBad ns next prev la l
  | [], _, _ => rfl
  | e :: r, prev, la => by rw [entsBad, entsBad, entBad_set hx hk, entsBad_set next r]
theorem entriesS_set (d : NodeS) : entriesS (ns.set n x') d = entriesS ns d := by
  unfold entriesS
  rw [entsBad_set hx hk]
theorem stepE_set (i : Int) (c : Cnt) (e : EntryS) : stepE (ns.set n x') i c e = stepE ns i c e := by
  unfold stepE
  rw [dirS_set hx hk]
theorem cntE_set (i : Int) : ∀ (l : List EntryS) (c : Cnt), cntE (ns.set n x') i c l = cntE ns i c l
  | [], _ => rfl
  | e :: r, c => by rw [cntE, cntE, stepE_set hx hk, cntE_set i r]
theorem nodeBad_set (tg : Int) (g : List Int) (y : NodeS) : nodeBad (ns.set n x') tg g y = nodeBad ns tg g y := by
  unfold nodeBad
  rw [entriesS_set hx hk]
end
/-- Nodes that the first pass takes for the same. -/
structure LikeP (x y : NodeS) : Prop where
  kind : x.kind = y.kind
  gen : x.gen = y.gen
  mode : x.mode = y.mode
  rn : x.rn = y.rn
  wn : x.wn = y.wn
  tn : x.tn = y.tn
  ents : x.ents = y.ents
  next : x.next = y.next
theorem entriesS_like {ns : List NodeS} {x y : NodeS} (h : LikeP x y) : entriesS ns x = entriesS ns y := by
  unfold entriesS
  rw [h.ents, h.next]
theorem nodeBad_like {ns : List NodeS} {tg : Int} {g : List Int} {x y : NodeS} (h : LikeP x y) : nodeBad ns tg g x = nodeBad ns tg g y := by
  unfold nodeBad
  rw [h.gen, h.mode, h.rn, h.wn, h.tn, h.kind, entriesS_like h]
theorem pass1_like {ns : List NodeS} {tg : Int} : ∀ (l : List NodeS) (k : Nat) (i : Int) (g : List Int) (c : Cnt) (x x' : NodeS), l[k]? = some x → LikeP x' x → pass1 ns tg (l.set k x') i g c = pass1 ns tg l i g c
  | [], k, _, _, _, x, _, h, _ => by simp at h
  | y :: r, 0, i, g, c, x, x', h, hl => by
    simp at h
    subst h
    rw [List.set_cons_zero, pass1, pass1, hl.kind, hl.gen, hl.ents, nodeBad_like hl]
  | y :: r, k + 1, i, g, c, x, x', h, hl => by
    rw [List.set_cons_succ, pass1, pass1]
    rw [pass1_like r k _ _ _ x x' (by simpa using h) hl, pass1_like r k _ _ _ x x' (by simpa using h) hl]
theorem pass1_ns {ns : List NodeS} {n : Nat} {x x' : NodeS} {tg : Int} (hx : ns[n]? = some x) (hk : x'.kind = x.kind) : ∀ (l : List NodeS) (i : Int) (g : List Int) (c : Cnt), pass1 (ns.set n x') tg l i g c = pass1 ns tg l i g c
  | [], _, _, _ => rfl
  | y :: r, i, g, c => by
    rw [pass1, pass1, nodeBad_set hx hk, cntE_set hx hk, pass1_ns hx hk r, pass1_ns hx hk r]
theorem pass1_set {ns : List NodeS} {n : Nat} {x x' : NodeS} {tg : Int} (hx : ns[n]? = some x) (hl : LikeP x' x) (i : Int) (g : List Int) (c : Cnt) : pass1 (ns.set n x') tg (ns.set n x') i g c = pass1 ns tg ns i g c := by
  rw [pass1_ns hx hl.kind, pass1_like ns n i g c x x' hx hl]
end Go.Proofs.Ytlglhnadalbddaa.Ab
/- Over the engine: rows that are cloned and clipped. -/
namespace Go.Proofs.Ytlglhnadalbddaa.Ab
open Go Go.RowKit

set_option maxRecDepth 100000
/-- A row in memory of its own. -/
def rowC (c : List AV) (n : Nat) (v : AV) : AV := match v with
  | .sl0 => .sl0
  | _ => .sl c n true
theorem numsA_len (k : IntKind) (l : List Int) : (numsA k l).length = l.length * 1 := by simp [numsA]

theorem bytesClone_c (m : Nat) (from_ : FuncId) (h : H) (a : Int) (l : List Int) (t : Bool) (hl : (a :: l).length * 1 ≤ 140737488351232) : evCall TE (m + 1) from_ (.fn 49 [] []) [.sl (numsA .u8 (a :: l)) (a :: l).length t] h = some (.ret (.sl (numsA .u8 (a :: l)) (a :: l).length false), h) := by
  obtain ⟨n, hn⟩ : ∃ n, n = (a :: l).length := ⟨_, rfl⟩
  have hn0 : 0 < n := by rw [hn]; exact Nat.succ_pos _
  have hc : (numsA .u8 (a :: l)).length = n * 1 := by rw [numsA_len, hn]
  rw [← hn] at hl ⊢
  clear hn
  generalize numsA .u8 (a :: l) = c at hc ⊢
  refine call_cleanE (fn := Try.f49) rfl Try.func49 rfl rfl rfl rfl rfl (Nat.le_of_ble_eq_true rfl) ?_
  intro End hE
  conv => whnf
  (refine     runK_append_new (sz := 1) (by_ := 1) rfl rfl rfl rfl rfl rfl rfl rfl rfl hn0 hc (by omega) (by omega) (by decide)       rfl ?_)
  conv => whnf
  (refine     hE _ _ [_] _ _ (.inr rfl) rfl       (leaveA_of (seal_rsl rfl rfl rfl rfl (by show 0 + n * 1 ≤ c.length; omega) (by decide)) rfl rfl) ?_)
  conv => whnf
  (show AV.sl ((c.drop 0).take (n * 1)) n false = _; rw [List.drop_zero, ← hc, List.take_length])
theorem bytesClone_0 (m : Nat) (from_ : FuncId) (h : H) (t : Bool) : evCall TE (m + 1) from_ (.fn 49 [] []) [.sl [] 0 t] h = some (.ret (.sl [] 0 true), h) := by
  refine call_clean (fn := Try.f49) rfl Try.func49 rfl rfl rfl rfl rfl (Nat.le_of_ble_eq_true rfl) ?_
  conv => whnf
  rfl
theorem bytesClone_nil (m : Nat) (from_ : FuncId) (h : H) : evCall TE (m + 1) from_ (.fn 49 [] []) [.sl0] h = some (.ret .sl0, h) := by
  refine call_clean (fn := Try.f49) rfl Try.func49 rfl rfl rfl rfl rfl (Nat.le_of_ble_eq_true rfl) ?_
  conv => whnf
theorem bytesClip_c (m : Nat) (from_ : FuncId) (h : H) (l : List Int) (t : Bool) : evCall TE (m + 1) from_ (.fn 48 [] []) [.sl (numsA .u8 l) l.length t] h = some (.ret (.sl (numsA .u8 l) l.length true), h) := by
  have hc : (numsA .u8 l).length = l.length * 1 := by rw [numsA_len]
  refine call_clean (fn := Try.f48) rfl Try.func48 rfl rfl rfl rfl rfl (Nat.le_of_ble_eq_true rfl) ?_
  conv => whnf
  (refine runK_ret (ev_clip (sz := 1) rfl rfl rfl rfl rfl hc) ?_)
  conv => whnf
theorem bytesClip_0 (m : Nat) (from_ : FuncId) (h : H) (t : Bool) : evCall TE (m + 1) from_ (.fn 48 [] []) [.sl [] 0 t] h = some (.ret (.sl [] 0 true), h) := bytesClip_c m from_ h [] t
theorem bytes_three {v : AV} {l : List Int} (hv : rowOk .u8 v l) : (v = .sl0 ∧ l = []) ∨ (∃ t, v = .sl [] 0 t ∧ l = []) ∨ ∃ a r t, v = .sl (numsA .u8 (a :: r)) (a :: r).length t ∧ l = a :: r := by
  rcases hv with h | ⟨t, rfl⟩
  · exact .inl h
  · cases l with
    | nil => exact .inr (.inl ⟨t, rfl, rfl⟩)
    | cons a r => exact .inr (.inr ⟨a, r, t, rfl, rfl⟩)
theorem bytesClip_nil (m : Nat) (from_ : FuncId) (h : H) : evCall TE (m + 1) from_ (.fn 48 [] []) [.sl0] h = some (.ret .sl0, h) := by
  refine call_clean (fn := Try.f48) rfl Try.func48 rfl rfl rfl rfl rfl (Nat.le_of_ble_eq_true rfl) ?_
  conv => whnf
/-- What a clone's clone is. -/
theorem bytes_own (v : AV) (l : List Int) (hv : rowOk .u8 v l) (hl : l.length * 1 ≤ 140737488351232) : ∃ u, u.clean = true ∧ (∀ (m : Nat) (f : FuncId) (h : H), evCall TE (m + 1) f (.fn 49 [] []) [v] h = some (.ret u, h)) ∧ ∀ (m : Nat) (f : FuncId) (h : H), evCall TE (m + 1) f (.fn 48 [] []) [u] h = some (.ret (rowC (numsA .u8 l) l.length v), h) := by
  rcases hv with ⟨rfl, rfl⟩ | ⟨t, rfl⟩
  · exact ⟨.sl0, rfl, bytesClone_nil, bytesClip_nil⟩
  · cases l with
    | nil => exact ⟨.sl [] 0 true, rfl, fun m f h => bytesClone_0 m f h t, fun m f h => bytesClip_c m f h [] true⟩
    | cons a l => exact ⟨_, rfl, fun m f h => bytesClone_c m f h a l t hl, fun m f h => bytesClip_c m f h (a :: l) false⟩
theorem bytesC_ok {v : AV} {l : List Int} (hv : rowOk .u8 v l) : rowOk .u8 (rowC (numsA .u8 l) l.length v) l := by
  rcases hv with ⟨rfl, rfl⟩ | ⟨t, rfl⟩
  · exact .inl ⟨rfl, rfl⟩
  · exact .inr ⟨true, rfl⟩

theorem entsClone_c (m : Nat) (from_ : FuncId) (h : H) (a : EntryS) (l : List EntryS) (t : Bool) (hl : (a :: l).length * 32 ≤ 140737488351232) : evCall TE (m + 1) from_ (.fn 51 [] []) [.sl (entriesA (a :: l)) (a :: l).length t] h = some (.ret (.sl (entriesA (a :: l)) (a :: l).length false), h) := by
  obtain ⟨n, hn⟩ : ∃ n, n = (a :: l).length := ⟨_, rfl⟩
  have hn0 : 0 < n := by rw [hn]; exact Nat.succ_pos _
  have hc : (entriesA (a :: l)).length = n * 3 := by rw [entriesA_len, hn]
  rw [← hn] at hl ⊢
  clear hn
  generalize entriesA (a :: l) = c at hc ⊢
  refine call_cleanE (fn := Try.f51) rfl Try.func51 rfl rfl rfl rfl rfl (Nat.le_of_ble_eq_true rfl) ?_
  intro End hE
  conv => whnf
  (refine     runK_append_new (sz := 3) (by_ := 32) rfl rfl rfl rfl rfl rfl rfl rfl rfl hn0 hc (by omega) (by omega) (by decide)       rfl ?_)
  conv => whnf
  (refine     hE _ _ [_] _ _ (.inr rfl) rfl       (leaveA_of (seal_rsl rfl rfl rfl rfl (by show 0 + n * 3 ≤ c.length; omega) (by decide)) rfl rfl) ?_)
  conv => whnf
  (show AV.sl ((c.drop 0).take (n * 3)) n false = _; rw [List.drop_zero, ← hc, List.take_length])
theorem entsClone_0 (m : Nat) (from_ : FuncId) (h : H) (t : Bool) : evCall TE (m + 1) from_ (.fn 51 [] []) [.sl [] 0 t] h = some (.ret (.sl [] 0 true), h) := by
  refine call_clean (fn := Try.f51) rfl Try.func51 rfl rfl rfl rfl rfl (Nat.le_of_ble_eq_true rfl) ?_
  conv => whnf
  rfl
theorem entsClone_nil (m : Nat) (from_ : FuncId) (h : H) : evCall TE (m + 1) from_ (.fn 51 [] []) [.sl0] h = some (.ret .sl0, h) := by
  refine call_clean (fn := Try.f51) rfl Try.func51 rfl rfl rfl rfl rfl (Nat.le_of_ble_eq_true rfl) ?_
  conv => whnf
theorem entsClip_c (m : Nat) (from_ : FuncId) (h : H) (l : List EntryS) (t : Bool) : evCall TE (m + 1) from_ (.fn 50 [] []) [.sl (entriesA l) l.length t] h = some (.ret (.sl (entriesA l) l.length true), h) := by
  have hc : (entriesA l).length = l.length * 3 := by rw [entriesA_len]
  refine call_clean (fn := Try.f50) rfl Try.func50 rfl rfl rfl rfl rfl (Nat.le_of_ble_eq_true rfl) ?_
  conv => whnf
  (refine runK_ret (ev_clip (sz := 3) rfl rfl rfl rfl rfl hc) ?_)
  conv => whnf
theorem entsClip_0 (m : Nat) (from_ : FuncId) (h : H) (t : Bool) : evCall TE (m + 1) from_ (.fn 50 [] []) [.sl [] 0 t] h = some (.ret (.sl [] 0 true), h) := entsClip_c m from_ h [] t
theorem ents_three {v : AV} {l : List EntryS} (hv : entsOk v l) : (v = .sl0 ∧ l = []) ∨ (∃ t, v = .sl [] 0 t ∧ l = []) ∨ ∃ a r t, v = .sl (entriesA (a :: r)) (a :: r).length t ∧ l = a :: r := by
  rcases hv with h | ⟨t, rfl⟩
  · exact .inl h
  · cases l with
    | nil => exact .inr (.inl ⟨t, rfl, rfl⟩)
    | cons a r => exact .inr (.inr ⟨a, r, t, rfl, rfl⟩)
theorem entsClip_nil (m : Nat) (from_ : FuncId) (h : H) : evCall TE (m + 1) from_ (.fn 50 [] []) [.sl0] h = some (.ret .sl0, h) := by
  refine call_clean (fn := Try.f50) rfl Try.func50 rfl rfl rfl rfl rfl (Nat.le_of_ble_eq_true rfl) ?_
  conv => whnf
/-- What a clone's clone is. -/
theorem ents_own (v : AV) (l : List EntryS) (hv : entsOk v l) (hl : l.length * 32 ≤ 140737488351232) : ∃ u, u.clean = true ∧ (∀ (m : Nat) (f : FuncId) (h : H), evCall TE (m + 1) f (.fn 51 [] []) [v] h = some (.ret u, h)) ∧ ∀ (m : Nat) (f : FuncId) (h : H), evCall TE (m + 1) f (.fn 50 [] []) [u] h = some (.ret (rowC (entriesA l) l.length v), h) := by
  rcases hv with ⟨rfl, rfl⟩ | ⟨t, rfl⟩
  · exact ⟨.sl0, rfl, entsClone_nil, entsClip_nil⟩
  · cases l with
    | nil => exact ⟨.sl [] 0 true, rfl, fun m f h => entsClone_0 m f h t, fun m f h => entsClip_c m f h [] true⟩
    | cons a l => exact ⟨_, rfl, fun m f h => entsClone_c m f h a l t hl, fun m f h => entsClip_c m f h (a :: l) false⟩
theorem entsC_ok {v : AV} {l : List EntryS} (hv : entsOk v l) : entsOk (rowC (entriesA l) l.length v) l := by
  rcases hv with ⟨rfl, rfl⟩ | ⟨t, rfl⟩
  · exact .inl ⟨rfl, rfl⟩
  · exact .inr ⟨true, rfl⟩
end Go.Proofs.Ytlglhnadalbddaa.Ab
/- Over the engine: a tree that is cloned. -/
namespace Go.Proofs.Ytlglhnadalbddaa.Ab
open Go Go.RowKit

set_option maxRecDepth 100000
def node0 : NodeS := ⟨0, 0, 0, 0, 0, 0, 0, 0, 0, 0, 0, 0, .sl0, [], fun _ => 0, [], .sl0, [], 0, 0⟩
theorem rep_nodes (n : Nat) : repCells n (nodeA node0) = nodesA (List.replicate n node0) := by
  unfold nodesA
  rw [List.map_replicate]
  rfl
theorem nodes_rep_len (n : Nat) : (nodesA (List.replicate n node0)).length = n * 25 := by rw [nodesA_len, List.length_replicate]
/-- What is known of a node, wherever it comes from. -/
def NodeS.fit (x : NodeS) : Prop := x.ok ∧ x.bytes.length ≤ 140737488351232 ∧ x.ents.length * 32 ≤ 140737488351232
/-- A node in memory of its own. -/
def cloneN (x : NodeS) : NodeS := { x with data := rowC (numsA .u8 x.bytes) x.bytes.length x.data, list := rowC (entriesA x.ents) x.ents.length x.list }
theorem topL_app : ∀ (a b : List AV), topL (a ++ b) = max (topL a) (topL b)
  | [], b => by simp [topL]
  | x :: a, b => by simp only [List.cons_append, topL, topL_app a b, Nat.max_assoc]
theorem nodeA_top {x : NodeS} (hx : x.ok) : topL (nodeA x) = 0 := by
  obtain ⟨kd, ge, mo, us, ng, li, xrs, xrn, xws, xwn, ts, tn, da, by_, vf, ta, ls, es, pa, nx⟩ := x
  simp only [NodeS.ok, rowOk, entsOk] at hx
  obtain ⟨hd, hl⟩ := hx
  rcases hd with ⟨rfl, rfl⟩ | ⟨dt, rfl⟩ <;> rcases hl with ⟨rfl, rfl⟩ | ⟨lt, rfl⟩ <;> rfl
theorem nodesA_top : ∀ {ns : List NodeS}, (∀ x ∈ ns, x.ok) → topL (nodesA ns) = 0
  | [], _ => rfl
  | x :: ns, h => by
    show topL (nodeA x ++ nodesA ns) = 0
    rw [topL_app, nodeA_top (h x (List.mem_cons_self ..)), nodesA_top fun y hy => h y (List.mem_cons_of_mem _ hy)]
    rfl
/-- So many are cloned. -/
def midN (ns : List NodeS) (i : Nat) : List NodeS := (ns.take i).map cloneN ++ ns.drop i
theorem midN_zero (ns : List NodeS) : midN ns 0 = ns := by simp [midN]
theorem midN_all (ns : List NodeS) {i : Nat} (h : ns.length ≤ i) : midN ns i = ns.map cloneN := by simp [midN, List.take_of_length_le h, List.drop_eq_nil_of_le h]
theorem midN_len (ns : List NodeS) (i : Nat) : (midN ns i).length = ns.length := by simp [midN]; omega
theorem midN_get {ns : List NodeS} {i : Nat} {x : NodeS} (h : ns[i]? = some x) : (midN ns i)[i]? = some x := by
  obtain ⟨h1, rfl⟩ := List.getElem?_eq_some_iff.1 h
  unfold midN
  rw [List.getElem?_append_right (by simp; omega)]
  simp [Nat.min_eq_left (Nat.le_of_lt h1)]
theorem midN_set {ns : List NodeS} {i : Nat} {x : NodeS} (h : ns[i]? = some x) : (midN ns i).set i (cloneN x) = midN ns (i + 1) := by
  obtain ⟨h1, rfl⟩ := List.getElem?_eq_some_iff.1 h
  unfold midN
  rw [List.set_append_right _ _ (by simp; omega)]
  simp only [List.length_map, List.length_take, Nat.min_eq_left (Nat.le_of_lt h1), Nat.sub_self]
  rw [List.drop_eq_getElem_cons h1, List.set_cons_zero, List.take_succ_eq_append_getElem h1, List.map_append, List.append_assoc]
  rfl
def cloneS (B : List AB) (ns : List NodeS) (t : Bool) (gen : Int) (a : Int × List NodeS) : ST :=
  ⟨RG.of 44 [(15, .int .i64 a.1), (14, .int .i64 ns.length), (3, .rsl 21 0 ns.length (some ns.length) 0), (2, .ref 20 0 0), (1, .ref 19 0 0)], ⟨B ++ [.cells [.sl (nodesA ns) ns.length t, .int .u32 gen] ⟨false, 0, false, true⟩, .cells [.sl0, .int .u32 0] ⟨false, 0, false, true⟩, .cells (nodesA a.2) ⟨false, 25, false, true⟩], []⟩⟩
theorem nodes_cell0 {l : List NodeS} {i : Nat} {x : NodeS} (h : l[i]? = some x) (k : Nat) (hk : k < 25) {v : AV} (hv : (nodeA x)[k]? = some v) : (nodesA l)[0 + i * 25 + k]? = some v := by
  rw [Nat.zero_add]
  exact (nodesA_cell h k hk).trans hv
theorem splice_nodes0 {ns : List NodeS} {i : Nat} {x x' : NodeS} {k : Nat} {vs : List AV} (hx : ns[i]? = some x) (hk : k + vs.length ≤ 25) (he : splice (nodeA x) k vs = nodeA x') : splice (nodesA ns) (0 + i * 25 + k) vs = nodesA (ns.set i x') := by
  rw [Nat.zero_add]
  exact splice_nodes hx hk he
set_option maxHeartbeats 4000000 in
theorem clone_K (m : Nat) (f : FuncId) (K : AV → H → Prop) (ns : List NodeS) (t : Bool) (gen : Int) (hok : ∀ x ∈ ns, x.fit) (hlen : ns.length ≤ 300) (b0 b1 b2 b3 b4 b5 b6 b7 b8 b9 b10 b11 b12 b13 b14 b15 b16 b17 b18 : AB) (hraw : TE.raw f 27 = true)
    (hk : K (.agg [.rsl 21 0 ns.length (some ns.length) 0, .int .u32 gen]) ⟨[b0, b1, b2, b3, b4, b5, b6, b7, b8, b9, b10, b11, b12, b13, b14, b15, b16, b17, b18, .cells [.rsl 21 0 ns.length (some ns.length) 0, .int .u32 gen] ⟨false, 0, false, true⟩, .cells [.rsl 21 0 ns.length (some ns.length) 0, .int .u32 gen] ⟨false, 0, false, true⟩, .cells (nodesA (ns.map cloneN)) ⟨false, 25, false, true⟩], [(20, 22), (19, 22)]⟩) :
    ∃ v h', (evAll TE (m + 2)).1 f (.fn 27 [] []) [.agg [.sl (nodesA ns) ns.length t, .int .u32 gen]] ⟨[b0, b1, b2, b3, b4, b5, b6, b7, b8, b9, b10, b11, b12, b13, b14, b15, b16, b17, b18], []⟩ = some (.ret v, h') ∧ K v h' := by
  have kb1 : ∀ (f : FuncId) (h : H) (a : Int) (l : List Int) (t : Bool), (a :: l).length ≤ 140737488351232 → (evAll TE (m + 1)).1 f (.fn 49 [] []) [.sl (numsA .u8 (a :: l)) (a :: l).length t] h = some (.ret (.sl (numsA .u8 (a :: l)) (a :: l).length false), h) := fun f h a l t hl => bytesClone_c m f h a l t (by omega)
  have kb2 : ∀ (f : FuncId) (h : H) (t : Bool), (evAll TE (m + 1)).1 f (.fn 49 [] []) [.sl [] 0 t] h = some (.ret (.sl [] 0 true), h) := fun f h t => bytesClone_0 m f h t
  have kb3 : ∀ (f : FuncId) (h : H), (evAll TE (m + 1)).1 f (.fn 49 [] []) [.sl0] h = some (.ret .sl0, h) := fun f h => bytesClone_nil m f h
  have kb4 : ∀ (f : FuncId) (h : H) (l : List Int) (t : Bool), (evAll TE (m + 1)).1 f (.fn 48 [] []) [.sl (numsA .u8 l) l.length t] h = some (.ret (.sl (numsA .u8 l) l.length true), h) := fun f h l t => bytesClip_c m f h l t
  have kb5 : ∀ (f : FuncId) (h : H) (t : Bool), (evAll TE (m + 1)).1 f (.fn 48 [] []) [.sl [] 0 t] h = some (.ret (.sl [] 0 true), h) := fun f h t => bytesClip_0 m f h t
  have kb6 : ∀ (f : FuncId) (h : H), (evAll TE (m + 1)).1 f (.fn 48 [] []) [.sl0] h = some (.ret .sl0, h) := fun f h => bytesClip_nil m f h
  have ke1 : ∀ (f : FuncId) (h : H) (a : EntryS) (l : List EntryS) (t : Bool), (a :: l).length * 32 ≤ 140737488351232 → (evAll TE (m + 1)).1 f (.fn 51 [] []) [.sl (entriesA (a :: l)) (a :: l).length t] h = some (.ret (.sl (entriesA (a :: l)) (a :: l).length false), h) := fun f h a l t hl => entsClone_c m f h a l t (by omega)
  have ke2 : ∀ (f : FuncId) (h : H) (t : Bool), (evAll TE (m + 1)).1 f (.fn 51 [] []) [.sl [] 0 t] h = some (.ret (.sl [] 0 true), h) := fun f h t => entsClone_0 m f h t
  have ke3 : ∀ (f : FuncId) (h : H), (evAll TE (m + 1)).1 f (.fn 51 [] []) [.sl0] h = some (.ret .sl0, h) := fun f h => entsClone_nil m f h
  have ke4 : ∀ (f : FuncId) (h : H) (l : List EntryS) (t : Bool), (evAll TE (m + 1)).1 f (.fn 50 [] []) [.sl (entriesA l) l.length t] h = some (.ret (.sl (entriesA l) l.length true), h) := fun f h l t => entsClip_c m f h l t
  have ke5 : ∀ (f : FuncId) (h : H) (t : Bool), (evAll TE (m + 1)).1 f (.fn 50 [] []) [.sl [] 0 t] h = some (.ret (.sl [] 0 true), h) := fun f h t => entsClip_0 m f h t
  have ke6 : ∀ (f : FuncId) (h : H), (evAll TE (m + 1)).1 f (.fn 50 [] []) [.sl0] h = some (.ret .sl0, h) := fun f h => entsClip_nil m f h
  refine call_raw (fn := Try.f27) rfl Try.func27 rfl hraw (Nat.le_of_ble_eq_true rfl) ?_
  conv => whnf
  (refine runK_ret (ev_makeN (sz := 25) (by_ := 144) rfl rfl rfl rfl rfl rfl (by omega) (by omega) rfl (by decide) rfl (rep_nodes _)) ?_)
  conv => whnf
  (refine runK_copy_all (sz := 25) rfl rfl rfl rfl rfl rfl rfl (nodesA_len ns) (nodes_rep_len _) ?_)
  conv => whnf
  (refine listK_of (splice_all _ _ (by rw [nodes_rep_len, nodesA_len])) ?_)
  conv => whnf
  (refine listK_of (if_pos (by rw [nodesA_top fun x hx => (hok x hx).1]; exact Nat.zero_le _)) ?_)
  conv => whnf
  refine ⟨ns.length + 1, by show ns.length + 1 ≤ 4611686018427387904; omega, ?_⟩
  refine rounds_ind (cloneS [b0, b1, b2, b3, b4, b5, b6, b7, b8, b9, b10, b11, b12, b13, b14, b15, b16, b17, b18] ns t gen) (fun a => 0 ≤ a.1 ∧ a.1 ≤ ns.length ∧ a.2 = midN ns a.1.toNat) (fun a => (ns.length - a.1).toNat) ?_ _ (0, ns) _ ⟨by omega, by omega, (midN_zero ns).symm⟩ (by simp only; omega) (by kernel_rfl)
  intro a m' hI ih
  obtain ⟨i, l⟩ := a
  dsimp only at hI ih ⊢
  obtain ⟨hI0, hI1, hI2⟩ := hI
  conv => whnf
  cases h1 : decide (i < (ns.length : Int)) with
  | false =>
    have h1 := of_decide_eq_false h1
    rw [midN_all ns (by omega)] at hI2
    subst hI2
    conv => whnf
    exact hk
  | true =>
    have h1 := of_decide_eq_true h1
    have h3 : i.toNat < ns.length := by omega
    obtain ⟨x, hx⟩ : ∃ x, ns[i.toNat]? = some x := ⟨_, List.getElem?_eq_getElem h3⟩
    have hxl : l[i.toNat]? = some x := by rw [hI2]; exact midN_get hx
    have hll : l.length = ns.length := by rw [hI2, midN_len]
    have hw : IntKind.wrap .i64 (i + 1) = i + 1 := wrap64 (by omega) (by omega)
    have hmu : (ns.length - IntKind.wrap .i64 (i + 1)).toNat < (ns.length - i).toNat := by rw [hw]; omega
    have hst : 0 ≤ IntKind.wrap .i64 (i + 1) ∧ IntKind.wrap .i64 (i + 1) ≤ ns.length ∧ l.set i.toNat (cloneN x) = midN ns (IntKind.wrap .i64 (i + 1)).toNat := by
      rw [hw, show (i + 1).toNat = i.toNat + 1 by omega, hI2]
      exact ⟨by omega, by omega, midN_set hx⟩
    have hst2 : ∀ y, 0 ≤ IntKind.wrap .i64 (i + 1) ∧ IntKind.wrap .i64 (i + 1) ≤ ns.length ∧ (l.set i.toNat y).set i.toNat (cloneN x) = midN ns (IntKind.wrap .i64 (i + 1)).toNat := fun y => by
      rw [List.set_set]
      exact hst
    have hget : ∀ y, (l.set i.toNat y)[i.toNat]? = some y := fun y => by rw [List.getElem?_set_self (by omega)]
    have hlen2 : ∀ y, (l.set i.toNat y).length = ns.length := fun y => by rw [List.length_set, hll]
    obtain ⟨hxo, hxr⟩ := hok x (List.mem_of_getElem? hx)
    have hb1 := hxr.1
    have hb2 := hxr.2
    clear hxr hok hI2
    obtain ⟨kd, ge, mo, us, ng, li, xrs, xrn, xws, xwn, ts, tn, da, by_, vf, ta, ls, es, pa, nx⟩ := x
    obtain ⟨hd3, hd4⟩ := hxo
    dsimp only at hb1 hb2
    rcases bytes_three hd3 with ⟨rfl, rfl⟩ | ⟨dt, rfl, rfl⟩ | ⟨da, dr, dt, rfl, rfl⟩ <;> rcases ents_three hd4 with ⟨rfl, rfl⟩ | ⟨lt, rfl, rfl⟩ | ⟨la, lr, lt, rfl, rfl⟩
    · conv => whnf
      (refine runK_ret (ev_indexRsl (sz := 25) rfl rfl rfl rfl hI0 h1) ?_)
      conv => whnf
      (refine runK_if rfl (runK_cell rfl (nodes_cell0 hxl 12 (by decide) rfl) ?_))
      conv => whnf
      with_reducible refine ⟨_, _, kb3 _ _, ?_⟩
      conv => whnf
      (refine ⟨rfl, ?_⟩)
      conv => whnf
      with_reducible refine ⟨_, _, kb6 _ _, ?_⟩
      conv => whnf
      (refine ⟨rfl, ?_⟩)
      conv => whnf
      (refine runK_ret (ev_indexRsl (sz := 25) rfl rfl rfl rfl hI0 h1) ?_)
      conv => whnf
      (refine runK_if rfl (runK_cell rfl (nodes_cell0 hxl 22 (by decide) rfl) ?_))
      conv => whnf
      with_reducible refine ⟨_, _, ke3 _ _, ?_⟩
      conv => whnf
      (refine ⟨rfl, ?_⟩)
      conv => whnf
      with_reducible refine ⟨_, _, ke6 _ _, ?_⟩
      conv => whnf
      (refine ⟨rfl, ?_⟩)
      conv => whnf
      (refine runK_ret (ev_indexRsl (sz := 25) rfl rfl rfl rfl hI0 h1) ?_)
      conv => whnf
      (refine     runK_if ⟨rfl, rfl, (by show 0 + i.toNat * 25 + 12 + 1 ≤ (nodesA l).length; rw [nodesA_len]; omega), .inl rfl⟩ ?_)
      conv => whnf
      (refine     listK_of       (splice_nodes0 (k := 12) (x' :=         ⟨kd, ge, mo, us, ng, li, xrs, xrn, xws, xwn, ts, tn, .sl0, [], vf, ta, .sl0, [], pa, nx⟩) hxl         (Nat.le_of_ble_eq_true rfl) rfl)       ?_)
      conv => whnf
      (refine runK_ret (ev_indexRsl (sz := 25) rfl rfl rfl rfl hI0 h1) ?_)
      conv => whnf
      (refine     runK_if       ⟨rfl, rfl, (by show 0 + i.toNat * 25 + 22 + 1 ≤ (nodesA (l.set i.toNat _)).length; rw [nodesA_len, hlen2]; omega),         .inl rfl⟩       ?_)
      conv => whnf
      (refine     listK_of       (splice_nodes0 (k := 22) (x' :=         ⟨kd, ge, mo, us, ng, li, xrs, xrn, xws, xwn, ts, tn, .sl0, [], vf, ta, .sl0, [], pa, nx⟩) (hget _)         (Nat.le_of_ble_eq_true rfl) rfl)       ?_)
      conv => whnf
      (refine ⟨by kernel_rfl, ?_⟩)
      conv => whnf
      (exact     ih (IntKind.wrap .i64 (i + 1), _) _       (hst2 ⟨kd, ge, mo, us, ng, li, xrs, xrn, xws, xwn, ts, tn, .sl0, [], vf, ta, .sl0, [], pa, nx⟩) hmu       (by kernel_rfl))
    · conv => whnf
      (refine runK_ret (ev_indexRsl (sz := 25) rfl rfl rfl rfl hI0 h1) ?_)
      conv => whnf
      (refine runK_if rfl (runK_cell rfl (nodes_cell0 hxl 12 (by decide) rfl) ?_))
      conv => whnf
      with_reducible refine ⟨_, _, kb3 _ _, ?_⟩
      conv => whnf
      (refine ⟨rfl, ?_⟩)
      conv => whnf
      with_reducible refine ⟨_, _, kb6 _ _, ?_⟩
      conv => whnf
      (refine ⟨rfl, ?_⟩)
      conv => whnf
      (refine runK_ret (ev_indexRsl (sz := 25) rfl rfl rfl rfl hI0 h1) ?_)
      conv => whnf
      (refine runK_if rfl (runK_cell rfl (nodes_cell0 hxl 22 (by decide) rfl) ?_))
      conv => whnf
      with_reducible refine ⟨_, _, ke2 _ _ _, ?_⟩
      conv => whnf
      (refine ⟨rfl, ?_⟩)
      conv => whnf
      with_reducible refine ⟨_, _, ke5 _ _ _, ?_⟩
      conv => whnf
      (refine ⟨rfl, ?_⟩)
      conv => whnf
      (refine runK_ret (ev_indexRsl (sz := 25) rfl rfl rfl rfl hI0 h1) ?_)
      conv => whnf
      (refine     runK_if ⟨rfl, rfl, (by show 0 + i.toNat * 25 + 12 + 1 ≤ (nodesA l).length; rw [nodesA_len]; omega), .inl rfl⟩ ?_)
      conv => whnf
      (refine     listK_of       (splice_nodes0 (k := 12) (x' :=         ⟨kd, ge, mo, us, ng, li, xrs, xrn, xws, xwn, ts, tn, .sl0, [], vf, ta, .sl [] 0 lt, [], pa, nx⟩) hxl         (Nat.le_of_ble_eq_true rfl) rfl)       ?_)
      conv => whnf
      (refine runK_ret (ev_indexRsl (sz := 25) rfl rfl rfl rfl hI0 h1) ?_)
      conv => whnf
      (refine     runK_if       ⟨rfl, rfl, (by show 0 + i.toNat * 25 + 22 + 1 ≤ (nodesA (l.set i.toNat _)).length; rw [nodesA_len, hlen2]; omega),         .inl rfl⟩       ?_)
      conv => whnf
      (refine     listK_of       (splice_nodes0 (k := 22) (x' :=         ⟨kd, ge, mo, us, ng, li, xrs, xrn, xws, xwn, ts, tn, .sl0, [], vf, ta, .sl [] 0 true, [], pa, nx⟩) (hget _)         (Nat.le_of_ble_eq_true rfl) rfl)       ?_)
      conv => whnf
      (refine ⟨by kernel_rfl, ?_⟩)
      conv => whnf
      (exact     ih (IntKind.wrap .i64 (i + 1), _) _       (hst2 ⟨kd, ge, mo, us, ng, li, xrs, xrn, xws, xwn, ts, tn, .sl0, [], vf, ta, .sl [] 0 lt, [], pa, nx⟩) hmu       (by kernel_rfl))
    · conv => whnf
      (refine runK_ret (ev_indexRsl (sz := 25) rfl rfl rfl rfl hI0 h1) ?_)
      conv => whnf
      (refine runK_if rfl (runK_cell rfl (nodes_cell0 hxl 12 (by decide) rfl) ?_))
      conv => whnf
      with_reducible refine ⟨_, _, kb3 _ _, ?_⟩
      conv => whnf
      (refine ⟨rfl, ?_⟩)
      conv => whnf
      with_reducible refine ⟨_, _, kb6 _ _, ?_⟩
      conv => whnf
      (refine ⟨rfl, ?_⟩)
      conv => whnf
      (refine runK_ret (ev_indexRsl (sz := 25) rfl rfl rfl rfl hI0 h1) ?_)
      conv => whnf
      (refine runK_if rfl (runK_cell rfl (nodes_cell0 hxl 22 (by decide) rfl) ?_))
      conv => whnf
      with_reducible refine ⟨_, _, ke1 _ _ _ _ _ hb2, ?_⟩
      conv => whnf
      (refine ⟨rfl, ?_⟩)
      conv => whnf
      with_reducible refine ⟨_, _, ke4 _ _ _ _, ?_⟩
      conv => whnf
      (refine ⟨rfl, ?_⟩)
      conv => whnf
      (refine runK_ret (ev_indexRsl (sz := 25) rfl rfl rfl rfl hI0 h1) ?_)
      conv => whnf
      (refine     runK_if ⟨rfl, rfl, (by show 0 + i.toNat * 25 + 12 + 1 ≤ (nodesA l).length; rw [nodesA_len]; omega), .inl rfl⟩ ?_)
      conv => whnf
      (refine     listK_of       (splice_nodes0 (k := 12) (x' :=         ⟨kd, ge, mo, us, ng, li, xrs, xrn, xws, xwn, ts, tn, .sl0, [], vf, ta,           .sl (entriesA (la :: lr)) (la :: lr).length lt, la :: lr, pa, nx⟩)         hxl (Nat.le_of_ble_eq_true rfl) rfl)       ?_)
      conv => whnf
      (refine runK_ret (ev_indexRsl (sz := 25) rfl rfl rfl rfl hI0 h1) ?_)
      conv => whnf
      (refine     runK_if       ⟨rfl, rfl, (by show 0 + i.toNat * 25 + 22 + 1 ≤ (nodesA (l.set i.toNat _)).length; rw [nodesA_len, hlen2]; omega),         .inl rfl⟩       ?_)
      conv => whnf
      (refine     listK_of       (splice_nodes0 (k := 22) (x' :=         ⟨kd, ge, mo, us, ng, li, xrs, xrn, xws, xwn, ts, tn, .sl0, [], vf, ta,           .sl (entriesA (la :: lr)) (la :: lr).length true, la :: lr, pa, nx⟩)         (hget _) (Nat.le_of_ble_eq_true rfl) rfl)       ?_)
      conv => whnf
      (refine ⟨by kernel_rfl, ?_⟩)
      conv => whnf
      (exact     ih (IntKind.wrap .i64 (i + 1), _) _       (hst2         ⟨kd, ge, mo, us, ng, li, xrs, xrn, xws, xwn, ts, tn, .sl0, [], vf, ta,           .sl (entriesA (la :: lr)) (la :: lr).length lt, la :: lr, pa, nx⟩)       hmu (by kernel_rfl))
    · conv => whnf
      (refine runK_ret (ev_indexRsl (sz := 25) rfl rfl rfl rfl hI0 h1) ?_)
      conv => whnf
      (refine runK_if rfl (runK_cell rfl (nodes_cell0 hxl 12 (by decide) rfl) ?_))
      conv => whnf
      with_reducible refine ⟨_, _, kb2 _ _ _, ?_⟩
      conv => whnf
      (refine ⟨rfl, ?_⟩)
      conv => whnf
      with_reducible refine ⟨_, _, kb5 _ _ _, ?_⟩
      conv => whnf
      (refine ⟨rfl, ?_⟩)
      conv => whnf
      (refine runK_ret (ev_indexRsl (sz := 25) rfl rfl rfl rfl hI0 h1) ?_)
      conv => whnf
      (refine runK_if rfl (runK_cell rfl (nodes_cell0 hxl 22 (by decide) rfl) ?_))
      conv => whnf
      with_reducible refine ⟨_, _, ke3 _ _, ?_⟩
      conv => whnf
      (refine ⟨rfl, ?_⟩)
      conv => whnf
      with_reducible refine ⟨_, _, ke6 _ _, ?_⟩
      conv => whnf
      (refine ⟨rfl, ?_⟩)
      conv => whnf
      (refine runK_ret (ev_indexRsl (sz := 25) rfl rfl rfl rfl hI0 h1) ?_)
      conv => whnf
      (refine     runK_if ⟨rfl, rfl, (by show 0 + i.toNat * 25 + 12 + 1 ≤ (nodesA l).length; rw [nodesA_len]; omega), .inl rfl⟩ ?_)
      conv => whnf
      (refine     listK_of       (splice_nodes0 (k := 12) (x' :=         ⟨kd, ge, mo, us, ng, li, xrs, xrn, xws, xwn, ts, tn, .sl [] 0 true, [], vf, ta, .sl0, [], pa, nx⟩) hxl         (Nat.le_of_ble_eq_true rfl) rfl)       ?_)
      conv => whnf
      (refine runK_ret (ev_indexRsl (sz := 25) rfl rfl rfl rfl hI0 h1) ?_)
      conv => whnf
      (refine     runK_if       ⟨rfl, rfl, (by show 0 + i.toNat * 25 + 22 + 1 ≤ (nodesA (l.set i.toNat _)).length; rw [nodesA_len, hlen2]; omega),         .inl rfl⟩       ?_)
      conv => whnf
      (refine     listK_of       (splice_nodes0 (k := 22) (x' :=         ⟨kd, ge, mo, us, ng, li, xrs, xrn, xws, xwn, ts, tn, .sl [] 0 true, [], vf, ta, .sl0, [], pa, nx⟩) (hget _)         (Nat.le_of_ble_eq_true rfl) rfl)       ?_)
      conv => whnf
      (refine ⟨by kernel_rfl, ?_⟩)
      conv => whnf
      (exact     ih (IntKind.wrap .i64 (i + 1), _) _       (hst2 ⟨kd, ge, mo, us, ng, li, xrs, xrn, xws, xwn, ts, tn, .sl [] 0 true, [], vf, ta, .sl0, [], pa, nx⟩) hmu       (by kernel_rfl))
    · conv => whnf
      (refine runK_ret (ev_indexRsl (sz := 25) rfl rfl rfl rfl hI0 h1) ?_)
      conv => whnf
      (refine runK_if rfl (runK_cell rfl (nodes_cell0 hxl 12 (by decide) rfl) ?_))
      conv => whnf
      with_reducible refine ⟨_, _, kb2 _ _ _, ?_⟩
      conv => whnf
      (refine ⟨rfl, ?_⟩)
      conv => whnf
      with_reducible refine ⟨_, _, kb5 _ _ _, ?_⟩
      conv => whnf
      (refine ⟨rfl, ?_⟩)
      conv => whnf
      (refine runK_ret (ev_indexRsl (sz := 25) rfl rfl rfl rfl hI0 h1) ?_)
      conv => whnf
      (refine runK_if rfl (runK_cell rfl (nodes_cell0 hxl 22 (by decide) rfl) ?_))
      conv => whnf
      with_reducible refine ⟨_, _, ke2 _ _ _, ?_⟩
      conv => whnf
      (refine ⟨rfl, ?_⟩)
      conv => whnf
      with_reducible refine ⟨_, _, ke5 _ _ _, ?_⟩
      conv => whnf
      (refine ⟨rfl, ?_⟩)
      conv => whnf
      (refine runK_ret (ev_indexRsl (sz := 25) rfl rfl rfl rfl hI0 h1) ?_)
      conv => whnf
      (refine     runK_if ⟨rfl, rfl, (by show 0 + i.toNat * 25 + 12 + 1 ≤ (nodesA l).length; rw [nodesA_len]; omega), .inl rfl⟩ ?_)
      conv => whnf
      (refine     listK_of       (splice_nodes0 (k := 12) (x' :=         ⟨kd, ge, mo, us, ng, li, xrs, xrn, xws, xwn, ts, tn, .sl [] 0 true, [], vf, ta, .sl [] 0 lt, [], pa, nx⟩) hxl         (Nat.le_of_ble_eq_true rfl) rfl)       ?_)
      conv => whnf
      (refine runK_ret (ev_indexRsl (sz := 25) rfl rfl rfl rfl hI0 h1) ?_)
      conv => whnf
      (refine     runK_if       ⟨rfl, rfl, (by show 0 + i.toNat * 25 + 22 + 1 ≤ (nodesA (l.set i.toNat _)).length; rw [nodesA_len, hlen2]; omega),         .inl rfl⟩       ?_)
      conv => whnf
      (refine     listK_of       (splice_nodes0 (k := 22) (x' :=         ⟨kd, ge, mo, us, ng, li, xrs, xrn, xws, xwn, ts, tn, .sl [] 0 true, [], vf, ta, .sl [] 0 true, [], pa, nx⟩)         (hget _) (Nat.le_of_ble_eq_true rfl) rfl)       ?_)
      conv => whnf
      (refine ⟨by kernel_rfl, ?_⟩)
      conv => whnf
      (exact     ih (IntKind.wrap .i64 (i + 1), _) _       (hst2 ⟨kd, ge, mo, us, ng, li, xrs, xrn, xws, xwn, ts, tn, .sl [] 0 true, [], vf, ta, .sl [] 0 lt, [], pa, nx⟩)       hmu (by kernel_rfl))
    · conv => whnf
      (refine runK_ret (ev_indexRsl (sz := 25) rfl rfl rfl rfl hI0 h1) ?_)
      conv => whnf
      (refine runK_if rfl (runK_cell rfl (nodes_cell0 hxl 12 (by decide) rfl) ?_))
      conv => whnf
      with_reducible refine ⟨_, _, kb2 _ _ _, ?_⟩
      conv => whnf
      (refine ⟨rfl, ?_⟩)
      conv => whnf
      with_reducible refine ⟨_, _, kb5 _ _ _, ?_⟩
      conv => whnf
      (refine ⟨rfl, ?_⟩)
      conv => whnf
      (refine runK_ret (ev_indexRsl (sz := 25) rfl rfl rfl rfl hI0 h1) ?_)
      conv => whnf
      (refine runK_if rfl (runK_cell rfl (nodes_cell0 hxl 22 (by decide) rfl) ?_))
      conv => whnf
      with_reducible refine ⟨_, _, ke1 _ _ _ _ _ hb2, ?_⟩
      conv => whnf
      (refine ⟨rfl, ?_⟩)
      conv => whnf
      with_reducible refine ⟨_, _, ke4 _ _ _ _, ?_⟩
      conv => whnf
      (refine ⟨rfl, ?_⟩)
      conv => whnf
      (refine runK_ret (ev_indexRsl (sz := 25) rfl rfl rfl rfl hI0 h1) ?_)
      conv => whnf
      (refine     runK_if ⟨rfl, rfl, (by show 0 + i.toNat * 25 + 12 + 1 ≤ (nodesA l).length; rw [nodesA_len]; omega), .inl rfl⟩ ?_)
      conv => whnf
      (refine     listK_of       (splice_nodes0 (k := 12) (x' :=         ⟨kd, ge, mo, us, ng, li, xrs, xrn, xws, xwn, ts, tn, .sl [] 0 true, [], vf, ta,           .sl (entriesA (la :: lr)) (la :: lr).length lt, la :: lr, pa, nx⟩)         hxl (Nat.le_of_ble_eq_true rfl) rfl)       ?_)
      conv => whnf
      (refine runK_ret (ev_indexRsl (sz := 25) rfl rfl rfl rfl hI0 h1) ?_)
      conv => whnf
      (refine     runK_if       ⟨rfl, rfl, (by show 0 + i.toNat * 25 + 22 + 1 ≤ (nodesA (l.set i.toNat _)).length; rw [nodesA_len, hlen2]; omega),         .inl rfl⟩       ?_)
      conv => whnf
      (refine     listK_of       (splice_nodes0 (k := 22) (x' :=         ⟨kd, ge, mo, us, ng, li, xrs, xrn, xws, xwn, ts, tn, .sl [] 0 true, [], vf, ta,           .sl (entriesA (la :: lr)) (la :: lr).length true, la :: lr, pa, nx⟩)         (hget _) (Nat.le_of_ble_eq_true rfl) rfl)       ?_)
      conv => whnf
      (refine ⟨by kernel_rfl, ?_⟩)
      conv => whnf
      (exact     ih (IntKind.wrap .i64 (i + 1), _) _       (hst2         ⟨kd, ge, mo, us, ng, li, xrs, xrn, xws, xwn, ts, tn, .sl [] 0 true, [], vf, ta,           .sl (entriesA (la :: lr)) (la :: lr).length lt, la :: lr, pa, nx⟩)       hmu (by kernel_rfl))
    · conv => whnf
      (refine runK_ret (ev_indexRsl (sz := 25) rfl rfl rfl rfl hI0 h1) ?_)
      conv => whnf
      (refine runK_if rfl (runK_cell rfl (nodes_cell0 hxl 12 (by decide) rfl) ?_))
      conv => whnf
      with_reducible refine ⟨_, _, kb1 _ _ _ _ _ hb1, ?_⟩
      conv => whnf
      (refine ⟨rfl, ?_⟩)
      conv => whnf
      with_reducible refine ⟨_, _, kb4 _ _ _ _, ?_⟩
      conv => whnf
      (refine ⟨rfl, ?_⟩)
      conv => whnf
      (refine runK_ret (ev_indexRsl (sz := 25) rfl rfl rfl rfl hI0 h1) ?_)
      conv => whnf
      (refine runK_if rfl (runK_cell rfl (nodes_cell0 hxl 22 (by decide) rfl) ?_))
      conv => whnf
      with_reducible refine ⟨_, _, ke3 _ _, ?_⟩
      conv => whnf
      (refine ⟨rfl, ?_⟩)
      conv => whnf
      with_reducible refine ⟨_, _, ke6 _ _, ?_⟩
      conv => whnf
      (refine ⟨rfl, ?_⟩)
      conv => whnf
      (refine runK_ret (ev_indexRsl (sz := 25) rfl rfl rfl rfl hI0 h1) ?_)
      conv => whnf
      (refine     runK_if ⟨rfl, rfl, (by show 0 + i.toNat * 25 + 12 + 1 ≤ (nodesA l).length; rw [nodesA_len]; omega), .inl rfl⟩ ?_)
      conv => whnf
      (refine     listK_of       (splice_nodes0 (k := 12) (x' :=         ⟨kd, ge, mo, us, ng, li, xrs, xrn, xws, xwn, ts, tn, .sl (numsA .u8 (da :: dr)) (da :: dr).length true,           da :: dr, vf, ta, .sl0, [], pa, nx⟩)         hxl (Nat.le_of_ble_eq_true rfl) rfl)       ?_)
      conv => whnf
      (refine runK_ret (ev_indexRsl (sz := 25) rfl rfl rfl rfl hI0 h1) ?_)
      conv => whnf
      (refine     runK_if       ⟨rfl, rfl, (by show 0 + i.toNat * 25 + 22 + 1 ≤ (nodesA (l.set i.toNat _)).length; rw [nodesA_len, hlen2]; omega),         .inl rfl⟩       ?_)
      conv => whnf
      (refine     listK_of       (splice_nodes0 (k := 22) (x' :=         ⟨kd, ge, mo, us, ng, li, xrs, xrn, xws, xwn, ts, tn, .sl (numsA .u8 (da :: dr)) (da :: dr).length true,           da :: dr, vf, ta, .sl0, [], pa, nx⟩)         (hget _) (Nat.le_of_ble_eq_true rfl) rfl)       ?_)
      conv => whnf
      (refine ⟨by kernel_rfl, ?_⟩)
      conv => whnf
      (exact     ih (IntKind.wrap .i64 (i + 1), _) _       (hst2         ⟨kd, ge, mo, us, ng, li, xrs, xrn, xws, xwn, ts, tn, .sl (numsA .u8 (da :: dr)) (da :: dr).length true,           da :: dr, vf, ta, .sl0, [], pa, nx⟩)       hmu (by kernel_rfl))
    · conv => whnf
      (refine runK_ret (ev_indexRsl (sz := 25) rfl rfl rfl rfl hI0 h1) ?_)
      conv => whnf
      (refine runK_if rfl (runK_cell rfl (nodes_cell0 hxl 12 (by decide) rfl) ?_))
      conv => whnf
      with_reducible refine ⟨_, _, kb1 _ _ _ _ _ hb1, ?_⟩
      conv => whnf
      (refine ⟨rfl, ?_⟩)
      conv => whnf
      with_reducible refine ⟨_, _, kb4 _ _ _ _, ?_⟩
      conv => whnf
      (refine ⟨rfl, ?_⟩)
      conv => whnf
      (refine runK_ret (ev_indexRsl (sz := 25) rfl rfl rfl rfl hI0 h1) ?_)
      conv => whnf
      (refine runK_if rfl (runK_cell rfl (nodes_cell0 hxl 22 (by decide) rfl) ?_))
      conv => whnf
      with_reducible refine ⟨_, _, ke2 _ _ _, ?_⟩
      conv => whnf
      (refine ⟨rfl, ?_⟩)
      conv => whnf
      with_reducible refine ⟨_, _, ke5 _ _ _, ?_⟩
      conv => whnf
      (refine ⟨rfl, ?_⟩)
      conv => whnf
      (refine runK_ret (ev_indexRsl (sz := 25) rfl rfl rfl rfl hI0 h1) ?_)
      conv => whnf
      (refine     runK_if ⟨rfl, rfl, (by show 0 + i.toNat * 25 + 12 + 1 ≤ (nodesA l).length; rw [nodesA_len]; omega), .inl rfl⟩ ?_)
      conv => whnf
      (refine     listK_of       (splice_nodes0 (k := 12) (x' :=         ⟨kd, ge, mo, us, ng, li, xrs, xrn, xws, xwn, ts, tn, .sl (numsA .u8 (da :: dr)) (da :: dr).length true,           da :: dr, vf, ta, .sl [] 0 lt, [], pa, nx⟩)         hxl (Nat.le_of_ble_eq_true rfl) rfl)       ?_)
      conv => whnf
      (refine runK_ret (ev_indexRsl (sz := 25) rfl rfl rfl rfl hI0 h1) ?_)
      conv => whnf
      (refine     runK_if       ⟨rfl, rfl, (by show 0 + i.toNat * 25 + 22 + 1 ≤ (nodesA (l.set i.toNat _)).length; rw [nodesA_len, hlen2]; omega),         .inl rfl⟩       ?_)
      conv => whnf
      (refine     listK_of       (splice_nodes0 (k := 22) (x' :=         ⟨kd, ge, mo, us, ng, li, xrs, xrn, xws, xwn, ts, tn, .sl (numsA .u8 (da :: dr)) (da :: dr).length true,           da :: dr, vf, ta, .sl [] 0 true, [], pa, nx⟩)         (hget _) (Nat.le_of_ble_eq_true rfl) rfl)       ?_)
      conv => whnf
      (refine ⟨by kernel_rfl, ?_⟩)
      conv => whnf
      (exact     ih (IntKind.wrap .i64 (i + 1), _) _       (hst2         ⟨kd, ge, mo, us, ng, li, xrs, xrn, xws, xwn, ts, tn, .sl (numsA .u8 (da :: dr)) (da :: dr).length true,           da :: dr, vf, ta, .sl [] 0 lt, [], pa, nx⟩)       hmu (by kernel_rfl))
    · conv => whnf
      (refine runK_ret (ev_indexRsl (sz := 25) rfl rfl rfl rfl hI0 h1) ?_)
      conv => whnf
      (refine runK_if rfl (runK_cell rfl (nodes_cell0 hxl 12 (by decide) rfl) ?_))
      conv => whnf
      with_reducible refine ⟨_, _, kb1 _ _ _ _ _ hb1, ?_⟩
      conv => whnf
      (refine ⟨rfl, ?_⟩)
      conv => whnf
      with_reducible refine ⟨_, _, kb4 _ _ _ _, ?_⟩
      conv => whnf
      (refine ⟨rfl, ?_⟩)
      conv => whnf
      (refine runK_ret (ev_indexRsl (sz := 25) rfl rfl rfl rfl hI0 h1) ?_)
      conv => whnf
      (refine runK_if rfl (runK_cell rfl (nodes_cell0 hxl 22 (by decide) rfl) ?_))
      conv => whnf
      with_reducible refine ⟨_, _, ke1 _ _ _ _ _ hb2, ?_⟩
      conv => whnf
      (refine ⟨rfl, ?_⟩)
      conv => whnf
      with_reducible refine ⟨_, _, ke4 _ _ _ _, ?_⟩
      conv => whnf
      (refine ⟨rfl, ?_⟩)
      conv => whnf
      (refine runK_ret (ev_indexRsl (sz := 25) rfl rfl rfl rfl hI0 h1) ?_)
      conv => whnf
      (refine     runK_if ⟨rfl, rfl, (by show 0 + i.toNat * 25 + 12 + 1 ≤ (nodesA l).length; rw [nodesA_len]; omega), .inl rfl⟩ ?_)
      conv => whnf
      (refine     listK_of       (splice_nodes0 (k := 12) (x' :=         ⟨kd, ge, mo, us, ng, li, xrs, xrn, xws, xwn, ts, tn, .sl (numsA .u8 (da :: dr)) (da :: dr).length true,           da :: dr, vf, ta, .sl (entriesA (la :: lr)) (la :: lr).length lt, la :: lr, pa, nx⟩)         hxl (Nat.le_of_ble_eq_true rfl) rfl)       ?_)
      conv => whnf
      (refine runK_ret (ev_indexRsl (sz := 25) rfl rfl rfl rfl hI0 h1) ?_)
      conv => whnf
      (refine     runK_if       ⟨rfl, rfl, (by show 0 + i.toNat * 25 + 22 + 1 ≤ (nodesA (l.set i.toNat _)).length; rw [nodesA_len, hlen2]; omega),         .inl rfl⟩       ?_)
      conv => whnf
      (refine     listK_of       (splice_nodes0 (k := 22) (x' :=         ⟨kd, ge, mo, us, ng, li, xrs, xrn, xws, xwn, ts, tn, .sl (numsA .u8 (da :: dr)) (da :: dr).length true,           da :: dr, vf, ta, .sl (entriesA (la :: lr)) (la :: lr).length true, la :: lr, pa, nx⟩)         (hget _) (Nat.le_of_ble_eq_true rfl) rfl)       ?_)
      conv => whnf
      (refine ⟨by kernel_rfl, ?_⟩)
      conv => whnf
      (exact     ih (IntKind.wrap .i64 (i + 1), _) _       (hst2         ⟨kd, ge, mo, us, ng, li, xrs, xrn, xws, xwn, ts, tn, .sl (numsA .u8 (da :: dr)) (da :: dr).length true,           da :: dr, vf, ta, .sl (entriesA (la :: lr)) (la :: lr).length lt, la :: lr, pa, nx⟩)       hmu (by kernel_rfl))
end Go.Proofs.Ytlglhnadalbddaa.Ab
/- Over the engine: a clone of a tree is one that may be as the tree is. -/
namespace Go.Proofs.Ytlglhnadalbddaa.Ab
open Go Go.RowKit

theorem kindS_clone (ns : List NodeS) (d : Int) : kindS (ns.map cloneN) d = kindS ns d := by
  unfold kindS
  rw [List.getElem?_map]
  cases ns[d.toNat]? <;> rfl
theorem parentS_clone (ns : List NodeS) (d : Int) : parentS (ns.map cloneN) d = parentS ns d := by
  unfold parentS
  rw [List.getElem?_map]
  cases ns[d.toNat]? <;> rfl
theorem thereS_clone (ns : List NodeS) (d : Int) : thereS (ns.map cloneN) d = thereS ns d := by
  unfold thereS
  rw [kindS_clone, List.length_map]
theorem dirS_clone (ns : List NodeS) (d : Int) : dirS (ns.map cloneN) d = dirS ns d := by
  unfold dirS
  rw [thereS_clone, kindS_clone]
theorem entBad_clone (ns : List NodeS) (next : Int) (prev : List EntryS) (la : Int) (e : EntryS) : entBad (ns.map cloneN) next prev la e = entBad ns next prev la e := by
  unfold entBad
  rw [thereS_clone]
theorem entsBad_clone (ns : List NodeS) (next : Int) : ∀ (l prev : List EntryS) (la : Int), entsBad (ns.map cloneN) next prev la l = entsBad ns next prev la l
  | [], _, _ => rfl
  | e :: r, prev, la => by rw [entsBad, entsBad, entBad_clone, entsBad_clone ns next r]
theorem entriesS_clone (ns : List NodeS) (d : NodeS) : entriesS (ns.map cloneN) d = entriesS ns d := by
  unfold entriesS
  rw [entsBad_clone]
theorem cntE_clone (ns : List NodeS) (i : Int) : ∀ (l : List EntryS) (c : Cnt), cntE (ns.map cloneN) i c l = cntE ns i c l
  | [], _ => rfl
  | e :: r, c => by
    rw [cntE, cntE, cntE_clone ns i r]
    congr 1
    unfold stepE
    rw [dirS_clone]
theorem withinS_clone (ns : List NodeS) (top : Int) : ∀ (k : Nat) (d : Int), withinS (ns.map cloneN) top k d = withinS ns top k d
  | 0, _ => rfl
  | k + 1, d => by rw [withinS, withinS, dirS_clone, parentS_clone, withinS_clone ns top k]
theorem nodeBad_clone (ns : List NodeS) (tg : Int) (g : List Int) (x : NodeS) : nodeBad (ns.map cloneN) tg g (cloneN x) = nodeBad ns tg g x := by
  unfold nodeBad
  rw [entriesS_clone]
  rfl
theorem pass1_clone (ns : List NodeS) (tg : Int) : ∀ (l : List NodeS) (i : Int) (g : List Int) (c : Cnt), pass1 (ns.map cloneN) tg (l.map cloneN) i g c = pass1 ns tg l i g c
  | [], _, _, _ => rfl
  | x :: r, i, g, c => by
    rw [List.map_cons, pass1, pass1, nodeBad_clone, cntE_clone, pass1_clone ns tg r, pass1_clone ns tg r]
    rfl
theorem nodeBad2_clone (ns : List NodeS) (c : Cnt) (i : Int) (x : NodeS) : nodeBad2 (ns.map cloneN) c i (cloneN x) = nodeBad2 ns c i x := by
  unfold nodeBad2
  rw [withinS_clone, List.length_map]
  rfl
theorem pass2_clone (ns : List NodeS) (c : Cnt) : ∀ (l : List NodeS) (i : Int), pass2 (ns.map cloneN) c (l.map cloneN) i = pass2 ns c l i
  | [], _ => rfl
  | x :: r, i => by
    rw [List.map_cons, pass2, pass2, nodeBad2_clone, pass2_clone ns c r]
    rfl
theorem checkS_clone (ns : List NodeS) (tg : Int) : checkS (ns.map cloneN) tg = checkS ns tg := by
  unfold checkS preBad anyBad
  rw [List.length_map, kindS_clone, dirS_clone, parentS_clone, thereS_clone, pass1_clone, List.any_map]
  simp only [pass2_clone]
  rfl
end Go.Proofs.Ytlglhnadalbddaa.Ab
/- Over the engine: a node that is turned to one that may be. -/
namespace Go.Proofs.Ytlglhnadalbddaa.Ab
open Go Go.RowKit

/-- A node turned in what may turn. -/
structure Turned (x x' : NodeS) : Prop where
  kind : x'.kind = x.kind
  gen : x'.gen = x.gen
  links : x'.links = x.links
  ents : x'.ents = x.ents
  parent : x'.parent = x.parent
  next : x'.next = x.next
  mode : decide (x'.mode > 4095) = false
  rn : decide (x'.rn < 1000000000) = true
  wn : decide (x'.wn < 1000000000) = true
  tn : decide (x'.tn < 1000000000) = true
theorem nodeBad_turn {ns : List NodeS} {tg : Int} {g : List Int} {x x' : NodeS} (ht : Turned x x') (h : nodeBad ns tg g x = false) : nodeBad ns tg g x' = false := by
  have he : entriesS ns x' = entriesS ns x := by
    unfold entriesS
    rw [ht.ents, ht.next]
  unfold nodeBad at *
  rw [he, ht.gen, ht.kind, ht.mode, ht.rn, ht.wn, ht.tn]
  simp only [Bool.or_eq_false_iff] at h
  rw [h.1, h.2.1, h.2.2.2.2.2.2]
  rfl
theorem pass1_turn {ns : List NodeS} {tg : Int} {c' : Cnt} : ∀ (l : List NodeS) (k : Nat) (i : Int) (g : List Int) (c : Cnt) (x x' : NodeS), l[k]? = some x → Turned x x' → pass1 ns tg l i g c = some c' → pass1 ns tg (l.set k x') i g c = some c'
  | [], k, _, _, _, x, _, h, _, _ => by simp at h
  | y :: r, 0, i, g, c, x, x', h, ht, hp => by
    simp at h
    subst h
    rw [List.set_cons_zero, pass1, ht.kind, ht.gen, ht.ents]
    rw [pass1] at hp
    split at hp
    · rename_i hk
      rw [if_pos hk]
      split at hp
      · cases hp
      · rename_i hb
        have hb : nodeBad ns tg g y = false := by simpa using hb
        rw [nodeBad_turn ht hb, if_neg (fun h => Bool.noConfusion h)]
        exact hp
    · rename_i hk
      rw [if_neg hk]
      exact hp
  | y :: r, k + 1, i, g, c, x, x', h, ht, hp => by
    rw [List.set_cons_succ, pass1]
    rw [pass1] at hp
    split at hp
    · rename_i hk
      rw [if_pos hk]
      split at hp
      · cases hp
      · rename_i hb
        rw [if_neg hb]
        exact pass1_turn r k _ _ _ x x' (by simpa using h) ht hp
    · rename_i hk
      rw [if_neg hk]
      exact pass1_turn r k _ _ _ x x' (by simpa using h) ht hp
section
variable {ns : List NodeS} {n : Nat} {x x' : NodeS} (hx : ns[n]? = some x) (ht : Turned x x')
include hx ht
theorem parentS_turn (d : Int) : parentS (ns.set n x') d = parentS ns d := by
  obtain ⟨h1, _⟩ := List.getElem?_eq_some_iff.1 hx
  unfold parentS
  by_cases hd : n = d.toNat
  · subst hd
    rw [List.getElem?_set_self h1, hx]
    exact ht.parent
  · rw [List.getElem?_set_ne hd]
theorem withinS_turn (top : Int) : ∀ (k : Nat) (d : Int), withinS (ns.set n x') top k d = withinS ns top k d
  | 0, _ => rfl
  | k + 1, d => by rw [withinS, withinS, dirS_set hx ht.kind, parentS_turn hx ht, withinS_turn top k]
theorem nodeBad2_ns (c : Cnt) (i : Int) (y : NodeS) : nodeBad2 (ns.set n x') c i y = nodeBad2 ns c i y := by
  unfold nodeBad2
  rw [withinS_turn hx ht, List.length_set]
theorem pass2_ns (c : Cnt) : ∀ (l : List NodeS) (i : Int), pass2 (ns.set n x') c l i = pass2 ns c l i
  | [], _ => rfl
  | y :: r, i => by rw [pass2, pass2, nodeBad2_ns hx ht, pass2_ns c r]
end
theorem pass2_turn {ns : List NodeS} {c : Cnt} : ∀ (l : List NodeS) (k : Nat) (i : Int) (x x' : NodeS), l[k]? = some x → Turned x x' → pass2 ns c (l.set k x') i = pass2 ns c l i
  | [], k, _, x, _, h, _ => by simp at h
  | y :: r, 0, i, x, x', h, ht => by
    simp at h
    subst h
    have hb : nodeBad2 ns c i x' = nodeBad2 ns c i y := by
      unfold nodeBad2
      rw [ht.kind, ht.links, ht.parent]
    rw [List.set_cons_zero, pass2, pass2, hb, ht.kind]
  | y :: r, k + 1, i, x, x', h, ht => by
    rw [List.set_cons_succ, pass2, pass2, pass2_turn r k _ x x' (by simpa using h) ht]
/-- A tree that may be stays one. -/
theorem checkS_turn {ns : List NodeS} {tg : Int} {n : Nat} {x x' : NodeS} (h : checkS ns tg = true) (hx : ns[n]? = some x) (ht : Turned x x') (ho : onlyS x' = true) : checkS (ns.set n x') tg = true := by
  obtain ⟨h1, h2, c, h3, h4⟩ := checkS_has h
  have hp : preBad (ns.set n x') = false := by
    unfold preBad at *
    rw [List.length_set, kindS_set hx ht.kind, dirS_set hx ht.kind, parentS_turn hx ht, thereS_set hx ht.kind]
    exact h1
  have ha : anyBad (ns.set n x') = false := by
    unfold anyBad at *
    rw [List.any_eq_false] at h2 ⊢
    intro y hy
    rcases List.mem_or_eq_of_mem_set hy with hy | rfl
    · exact h2 y hy
    · rw [ho]
      decide
  unfold checkS
  rw [hp, ha, List.length_set, pass1_ns hx ht.kind, pass1_turn ns n _ _ _ x x' hx ht h3]
  simp only [pass2_ns hx ht, pass2_turn ns n 0 x x' hx ht, h4]
  rfl
end Go.Proofs.Ytlglhnadalbddaa.Ab
/- Over the engine: what is asked of a node: guard's asking. -/
namespace Go.Proofs.Ytlglhnadalbddaa.Ab
open Go Go.RowKit

/-- What is to be set. -/
structure SetS where
  hm : Bool
  mode : Int
  hu : Bool
  user : Int
  hg : Bool
  group : Int
  hs : Bool
  size : Int
  rh : Int
  rs : Int
  rn : Int
  wh : Int
  ws : Int
  wn : Int
def setA (s : SetS) : List AV := [.bool s.hm, .int .u32 s.mode, .bool s.hu, .int .u32 s.user, .bool s.hg, .int .u32 s.group, .bool s.hs, .int .u64 s.size, .int .u32 s.rh, .int .u32 s.rs, .int .u32 s.rn, .int .u32 s.wh, .int .u32 s.ws, .int .u32 s.wn]
/-- What is asked, by whom, when. -/
def askA (v : AV) (gen n : Int) (c : CredS) (s : SetS) (ss sn : Int) (owns : Bool) : AV :=
  .agg [v, .int .u32 gen, .int .i64 n, .int .u32 c.user, .int .u32 c.group, c.gs, .bool s.hm, .int .u32 s.mode, .bool s.hu, .int .u32 s.user, .bool s.hg, .int .u32 s.group, .bool s.hs, .int .u64 s.size, .int .u32 s.rh, .int .u32 s.rs, .int .u32 s.rn, .int .u32 s.wh, .int .u32 s.ws, .int .u32 s.wn, .int .u32 ss, .int .u32 sn, .bool owns]
set_option maxRecDepth 100000
def nanoOk (n : Int) : Bool := decide (n < 1000000000)
theorem times_c (m : Nat) (from_ : FuncId) (h : H) (s n : Int) : evCall TE (m + 1) from_ (.fn 18 [] []) [.agg [.int .u32 s, .int .u32 n]] h = some (.ret (.bool (nanoOk n)), h) := by
  refine call_clean (fn := Try.f18) rfl Try.func18 rfl rfl rfl rfl rfl (Nat.le_of_ble_eq_true rfl) ?_
  conv => whnf
  rfl
def ownsS (ns : List NodeS) (n : Int) (c : CredS) : Bool := thereS ns n && (c.user == 0 || c.user == (match ns[n.toNat]? with | some x => x.user | none => 0))
theorem owns_c (m : Nat) (from_ : FuncId) (h : H) (v : AV) (ns : List NodeS) (hv : nodesOk v ns) (hok : ∀ x ∈ ns, x.ok) (gen n : Int) (c : CredS) (hc : c.ok) : evCall TE (m + 3) from_ (.fn 22 [] []) [.agg [v, .int .u32 gen], .int .i64 n, credA c] h = some (.ret (.bool (ownsS ns n c)), h) := by
  unfold ownsS
  cases hn : thereS ns n with
  | false =>
    have hat := fun (f : FuncId) (h : H) => attrs_none m f h v ns hv gen n hn
    obtain ⟨u, gr, gs, l⟩ := c
    obtain ⟨h1, h2⟩ := hc
    dsimp only at h1 h2
    rcases h1 with ⟨rfl, rfl⟩ | ⟨tt, rfl⟩ <;> rcases hv with ⟨rfl, rfl⟩ | ⟨t, rfl⟩
    all_goals refine call_clean (fn := Try.f22) rfl Try.func22 rfl rfl rfl rfl rfl (Nat.le_of_ble_eq_true rfl) ?_
    all_goals conv => whnf
    all_goals refine ⟨_, _, hat _ _, ?_⟩
    all_goals conv => whnf
    all_goals rfl
  | true =>
    obtain ⟨x, hx⟩ : ∃ x, ns[n.toNat]? = some x := by
      unfold thereS at hn
      simp only [Bool.and_eq_true, decide_eq_true_eq] at hn
      exact ⟨_, List.getElem?_eq_getElem (by omega)⟩
    have hat := fun (f : FuncId) (h : H) => attrs_some m f h v ns hv gen n x hn hx (hok x (List.mem_of_getElem? hx))
    obtain ⟨u, gr, gs, l⟩ := c
    obtain ⟨h1, h2⟩ := hc
    dsimp only at h1 h2
    rw [hx]
    dsimp only
    rcases h1 with ⟨rfl, rfl⟩ | ⟨tt, rfl⟩ <;> rcases hv with ⟨rfl, rfl⟩ | ⟨t, rfl⟩
    all_goals refine call_clean (fn := Try.f22) rfl Try.func22 rfl rfl rfl rfl rfl (Nat.le_of_ble_eq_true rfl) ?_
    all_goals conv => whnf
    all_goals refine ⟨_, _, hat _ _, ?_⟩
    all_goals conv => whnf
    all_goals cases h3 : u == 0
    all_goals conv => whnf
    all_goals rfl
/-- The refusals: of the form. -/
def badT (how nano : Int) : Bool := decide (how > 2) || (how == 2 && !nanoOk nano)
def form0 (s : SetS) (sn : Int) : Bool := (s.hm && decide (s.mode > 4095)) || !nanoOk sn
def form1 (s : SetS) (sn : Int) : Bool := form0 s sn || badT s.rh s.rn
def form2 (s : SetS) (sn : Int) : Bool := form1 s sn || badT s.wh s.wn
def formS (s : SetS) (sn : Int) : Int := if form2 s sn = true then 22 else 0
def writesS (ns : List NodeS) (n : Int) (c : CredS) (owns : Bool) : Bool := owns || (match ns[n.toNat]? with | some x => mayX x c 2 | none => false)
def ownerS (x : NodeS) (c : CredS) (s : SetS) (owns : Bool) : Bool :=
  (s.hm && !owns) || (s.hu && !(c.user == 0) && (!owns || s.user != x.user)) || (s.hg && (!owns || (!(c.user == 0) && s.group != x.group && !inS c s.group)))
def sizeB (x : NodeS) (s : SetS) (w : Bool) : Int := if s.hs = false then 0 else if (x.kind == 2) = true then 21 else if (x.kind == 5) = true then 22 else if decide (s.size > 65536) = true then 27 else if w = false then 13 else 0
def stampsB (s : SetS) (owns w : Bool) : Int := if ((s.rh == 2 || s.wh == 2) && !owns) = true then 1 else if ((s.rh == 1 || s.wh == 1) && !w) = true then 13 else 0
section
variable (m : Nat) (from_ : FuncId) (h : H) (ns : List NodeS) (t : Bool) (gen n : Int) (c : CredS) (hc : c.ok) (s : SetS) (ss sn : Int) (owns : Bool)
include hc
theorem times2_c : evCall TE (m + 1) from_ (.fn 45 [] []) [askA (.sl (nodesA ns) ns.length t) gen n c s ss sn owns] h = some (.ret (.agg [.int .u32 s.rh, .int .u32 s.rs, .int .u32 s.rn, .int .u32 s.wh, .int .u32 s.ws, .int .u32 s.wn]), h) := by
  obtain ⟨u, gr, gs, l⟩ := c
  obtain ⟨h1, h2⟩ := hc
  dsimp only at h1 h2
  rcases h1 with ⟨rfl, rfl⟩ | ⟨tt, rfl⟩
  all_goals refine call_clean (fn := Try.f45) rfl Try.func45 rfl rfl rfl rfl rfl (Nat.le_of_ble_eq_true rfl) ?_
  all_goals conv => whnf
  all_goals rfl
set_option maxHeartbeats 4000000 in
theorem form_c : evCall TE (m + 2) from_ (.fn 23 [] []) [askA (.sl (nodesA ns) ns.length t) gen n c s ss sn owns] h = some (.ret (.int .u32 (formS s sn)), h) := by
  have c1 : ∀ (f : FuncId) (h : H) (a b : Int), (evAll TE (m + 1)).1 f (.fn 18 [] []) [.agg [.int .u32 a, .int .u32 b]] h = some (.ret (.bool (nanoOk b)), h) := fun f h a b => times_c m f h a b
  have c2 : ∀ (f : FuncId) (h : H), (evAll TE (m + 1)).1 f (.fn 45 [] []) [askA (.sl (nodesA ns) ns.length t) gen n c s ss sn owns] h = some (.ret (.agg [.int .u32 s.rh, .int .u32 s.rs, .int .u32 s.rn, .int .u32 s.wh, .int .u32 s.ws, .int .u32 s.wn]), h) := fun f h => times2_c m f h ns t gen n c hc s ss sn owns
  obtain ⟨r, hr⟩ : ∃ r, r = formS s sn := ⟨_, rfl⟩
  rw [← hr]
  obtain ⟨u, gr, gs, l⟩ := c
  obtain ⟨h1, h2⟩ := hc
  dsimp only at h1 h2
  obtain ⟨hm, mode, hu, user, hg, group, hs, size, rh, rs, rn, wh, ws, wn⟩ := s
  unfold formS form2 form1 form0 badT at hr
  unfold askA at c2 ⊢
  dsimp only at c2 hr ⊢
  rcases h1 with ⟨rfl, rfl⟩ | ⟨tt, rfl⟩
  all_goals refine call_clean (fn := Try.f23) rfl Try.func23 rfl rfl rfl rfl rfl (Nat.le_of_ble_eq_true rfl) ?_
  all_goals
    conv => whnf
    cases hm
    · conv => whnf
      with_reducible refine ⟨_, _, c1 _ _ _ _, ?_⟩
      conv => whnf
      with_reducible refine ⟨_, _, c2 _ _, ?_⟩
      conv => whnf
      (with_reducible refine ⟨(3 : Nat), ?_, ?_⟩; · exact Nat.le_of_ble_eq_true rfl)
      conv => whnf
      cases z1 : nanoOk sn
      · conv => whnf
        (rw [hr]; simp_all; done)
      · conv => whnf
        cases z2 : decide (rh > Int.ofNat 2)
        · conv => whnf
          cases z3 : rh == Int.ofNat 2
          · conv => whnf
            cases z4 : decide (wh > Int.ofNat 2)
            · conv => whnf
              cases z5 : wh == Int.ofNat 2
              · conv => whnf
                (rw [hr]; simp_all; done)
              · conv => whnf
                with_reducible refine ⟨_, _, c1 _ _ _ _, ?_⟩
                conv => whnf
                cases z6 : nanoOk wn
                · conv => whnf
                  (rw [hr]; simp_all; done)
                · conv => whnf
                  (rw [hr]; simp_all; done)
            · conv => whnf
              (rw [hr]; simp_all; done)
          · conv => whnf
            with_reducible refine ⟨_, _, c1 _ _ _ _, ?_⟩
            conv => whnf
            cases z7 : nanoOk rn
            · conv => whnf
              (rw [hr]; simp_all; done)
            · conv => whnf
              cases z8 : decide (wh > Int.ofNat 2)
              · conv => whnf
                cases z9 : wh == Int.ofNat 2
                · conv => whnf
                  (rw [hr]; simp_all; done)
                · conv => whnf
                  with_reducible refine ⟨_, _, c1 _ _ _ _, ?_⟩
                  conv => whnf
                  cases z10 : nanoOk wn
                  · conv => whnf
                    (rw [hr]; simp_all; done)
                  · conv => whnf
                    (rw [hr]; simp_all; done)
              · conv => whnf
                (rw [hr]; simp_all; done)
        · conv => whnf
          (rw [hr]; simp_all; done)
    · conv => whnf
      cases z11 : decide (mode > Int.ofNat 4095)
      · conv => whnf
        with_reducible refine ⟨_, _, c1 _ _ _ _, ?_⟩
        conv => whnf
        with_reducible refine ⟨_, _, c2 _ _, ?_⟩
        conv => whnf
        (with_reducible refine ⟨(3 : Nat), ?_, ?_⟩; · exact Nat.le_of_ble_eq_true rfl)
        conv => whnf
        cases z12 : nanoOk sn
        · conv => whnf
          (rw [hr]; simp_all; done)
        · conv => whnf
          cases z13 : decide (rh > Int.ofNat 2)
          · conv => whnf
            cases z14 : rh == Int.ofNat 2
            · conv => whnf
              cases z15 : decide (wh > Int.ofNat 2)
              · conv => whnf
                cases z16 : wh == Int.ofNat 2
                · conv => whnf
                  (rw [hr]; simp_all; done)
                · conv => whnf
                  with_reducible refine ⟨_, _, c1 _ _ _ _, ?_⟩
                  conv => whnf
                  cases z17 : nanoOk wn
                  · conv => whnf
                    (rw [hr]; simp_all; done)
                  · conv => whnf
                    (rw [hr]; simp_all; done)
              · conv => whnf
                (rw [hr]; simp_all; done)
            · conv => whnf
              with_reducible refine ⟨_, _, c1 _ _ _ _, ?_⟩
              conv => whnf
              cases z18 : nanoOk rn
              · conv => whnf
                (rw [hr]; simp_all; done)
              · conv => whnf
                cases z19 : decide (wh > Int.ofNat 2)
                · conv => whnf
                  cases z20 : wh == Int.ofNat 2
                  · conv => whnf
                    (rw [hr]; simp_all; done)
                  · conv => whnf
                    with_reducible refine ⟨_, _, c1 _ _ _ _, ?_⟩
                    conv => whnf
                    cases z21 : nanoOk wn
                    · conv => whnf
                      (rw [hr]; simp_all; done)
                    · conv => whnf
                      (rw [hr]; simp_all; done)
                · conv => whnf
                  (rw [hr]; simp_all; done)
          · conv => whnf
            (rw [hr]; simp_all; done)
      · conv => whnf
        with_reducible refine ⟨_, _, c2 _ _, ?_⟩
        conv => whnf
        (with_reducible refine ⟨(3 : Nat), ?_, ?_⟩; · exact Nat.le_of_ble_eq_true rfl)
        conv => whnf
        (rw [hr]; simp_all; done)
variable (hok : ∀ x ∈ ns, x.ok) (hn : thereS ns n = true) (x : NodeS) (hx : ns[n.toNat]? = some x)
include hok hn hx
theorem writes_c : evCall TE (m + 5) from_ (.fn 47 [] []) [askA (.sl (nodesA ns) ns.length t) gen n c s ss sn owns] h = some (.ret (.bool (owns || mayX x c 2)), h) := by
  have c1 : ∀ (f : FuncId) (h : H), (evAll TE (m + 4)).1 f (.fn 57 [] []) [.agg [.sl (nodesA ns) ns.length t, .int .u32 gen], .int .i64 n, credA c, .int .u32 2] h = some (.ret (.bool (mayX x c 2)), h) := fun f h => may_some m f h _ ns (.inr ⟨t, rfl⟩) gen n c 2 hc x hn hx (hok x (List.mem_of_getElem? hx))
  obtain ⟨r, hr⟩ : ∃ r, r = mayX x c 2 := ⟨_, rfl⟩
  rw [← hr] at c1 ⊢
  clear hr
  obtain ⟨u, gr, gs, l⟩ := c
  obtain ⟨h1, h2⟩ := hc
  dsimp only at h1 h2
  obtain ⟨hm, mode, hu, user, hg, group, hs, size, rh, rs, rn, wh, ws, wn⟩ := s
  unfold askA
  dsimp only at c1 ⊢
  rcases h1 with ⟨rfl, rfl⟩ | ⟨tt, rfl⟩
  all_goals refine call_clean (fn := Try.f47) rfl Try.func47 rfl rfl rfl rfl rfl (Nat.le_of_ble_eq_true rfl) ?_
  all_goals
    conv => whnf
    cases owns
    · conv => whnf
      with_reducible refine ⟨_, _, c1 _ _, ?_⟩
      conv => whnf
      rfl
    · conv => whnf
      rfl
set_option maxHeartbeats 4000000 in
theorem owner_c : evCall TE (m + 5) from_ (.fn 24 [] []) [askA (.sl (nodesA ns) ns.length t) gen n c s ss sn owns] h = some (.ret (.int .u32 (if ownerS x c s owns = true then 1 else 0)), h) := by
  have c1 : ∀ (f : FuncId) (h : H), (evAll TE (m + 4)).1 f (.fn 46 [] []) [credA c, .int .u32 s.group] h = some (.ret (.bool (inS c s.group)), h) := fun f h => in_c (m + 1) f h c s.group hc
  obtain ⟨q, hq⟩ : ∃ q, q = inS c s.group := ⟨_, rfl⟩
  rw [← hq] at c1
  obtain ⟨r, hr⟩ : ∃ r, r = if ownerS x c s owns = true then (1 : Int) else 0 := ⟨_, rfl⟩
  rw [← hr]
  unfold ownerS at hr
  rw [← hq] at hr
  clear hq
  unfold thereS at hn
  rw [Bool.and_eq_true, Bool.and_eq_true, decide_eq_true_eq, decide_eq_true_eq] at hn
  have hn0 : 0 ≤ n := by omega
  have hn1 := hn.2.1
  have hlen : n.toNat * 25 + 25 ≤ (nodesA ns).length := by rw [nodesA_len]; omega
  have hxok := hok x (List.mem_of_getElem? hx)
  have hrow := nodesA_node hx
  clear hn hok
  obtain ⟨kd, ge, mo, us, ng, li, xrs, xrn, xws, xwn, ts, tn, da, by_, vf, ta, ls, es, pa, nx⟩ := x
  simp only [NodeS.ok, rowOk, entsOk] at hxok
  obtain ⟨hd, hl⟩ := hxok
  obtain ⟨u, gr, gs, l⟩ := c
  obtain ⟨h1, h2⟩ := hc
  dsimp only at h1 h2
  obtain ⟨hm, mode, hu, user, hg, group, hs, size, rh, rs, rn, wh, ws, wn⟩ := s
  unfold askA
  dsimp only at c1 hr ⊢
  clear hx
  rcases h1 with ⟨rfl, rfl⟩ | ⟨tt, rfl⟩ <;> rcases hd with ⟨rfl, rfl⟩ | ⟨dt, rfl⟩ <;> rcases hl with ⟨rfl, rfl⟩ | ⟨lt, rfl⟩
  all_goals refine call_clean (fn := Try.f24) rfl Try.func24 rfl rfl rfl rfl rfl (Nat.le_of_ble_eq_true rfl) ?_
  all_goals
    conv => whnf
    (refine runK_ret (ev_indexSl (sz := 25) rfl rfl rfl rfl hn0 hn1) ?_)
    conv => whnf
    (refine runK_ret (ev_loadVA (z := 25) rfl rfl rfl hlen hrow) ?_)
    conv => whnf
    (refine ⟨by kernel_rfl, ?_⟩)
    conv => whnf
    cases hm
    · conv => whnf
      cases hu
      · conv => whnf
        cases hg
        · conv => whnf
          (rw [hr]; simp_all; done)
        · conv => whnf
          cases owns
          · conv => whnf
            (rw [hr]; simp_all; done)
          · conv => whnf
            cases z4 : u == Int.ofNat 0
            · conv => whnf
              cases z5 : group != ng
              · conv => whnf
                (rw [hr]; simp_all; done)
              · conv => whnf
                with_reducible refine ⟨_, _, c1 _ _, ?_⟩
                conv => whnf
                cases q
                · conv => whnf
                  (rw [hr]; simp_all; done)
                · conv => whnf
                  (rw [hr]; simp_all; done)
            · conv => whnf
              (rw [hr]; simp_all; done)
      · conv => whnf
        cases z7 : u == Int.ofNat 0
        · conv => whnf
          cases owns
          · conv => whnf
            (rw [hr]; simp_all; done)
          · conv => whnf
            cases z9 : user != us
            · conv => whnf
              cases hg
              · conv => whnf
                (rw [hr]; simp_all; done)
              · conv => whnf
                cases z11 : group != ng
                · conv => whnf
                  (rw [hr]; simp_all; done)
                · conv => whnf
                  with_reducible refine ⟨_, _, c1 _ _, ?_⟩
                  conv => whnf
                  cases q
                  · conv => whnf
                    (rw [hr]; simp_all; done)
                  · conv => whnf
                    (rw [hr]; simp_all; done)
            · conv => whnf
              (rw [hr]; simp_all; done)
        · conv => whnf
          cases hg
          · conv => whnf
            (rw [hr]; simp_all; done)
          · conv => whnf
            cases owns
            · conv => whnf
              (rw [hr]; simp_all; done)
            · conv => whnf
              (rw [hr]; simp_all; done)
    · conv => whnf
      cases owns
      · conv => whnf
        (rw [hr]; simp_all; done)
      · conv => whnf
        cases hu
        · conv => whnf
          cases hg
          · conv => whnf
            (rw [hr]; simp_all; done)
          · conv => whnf
            cases z18 : u == Int.ofNat 0
            · conv => whnf
              cases z19 : group != ng
              · conv => whnf
                (rw [hr]; simp_all; done)
              · conv => whnf
                with_reducible refine ⟨_, _, c1 _ _, ?_⟩
                conv => whnf
                cases q
                · conv => whnf
                  (rw [hr]; simp_all; done)
                · conv => whnf
                  (rw [hr]; simp_all; done)
            · conv => whnf
              (rw [hr]; simp_all; done)
        · conv => whnf
          cases z21 : u == Int.ofNat 0
          · conv => whnf
            cases z22 : user != us
            · conv => whnf
              cases hg
              · conv => whnf
                (rw [hr]; simp_all; done)
              · conv => whnf
                cases z24 : group != ng
                · conv => whnf
                  (rw [hr]; simp_all; done)
                · conv => whnf
                  with_reducible refine ⟨_, _, c1 _ _, ?_⟩
                  conv => whnf
                  cases q
                  · conv => whnf
                    (rw [hr]; simp_all; done)
                  · conv => whnf
                    (rw [hr]; simp_all; done)
            · conv => whnf
              (rw [hr]; simp_all; done)
          · conv => whnf
            cases hg
            · conv => whnf
              (rw [hr]; simp_all; done)
            · conv => whnf
              (rw [hr]; simp_all; done)
set_option maxHeartbeats 4000000 in
theorem size_c : evCall TE (m + 6) from_ (.fn 25 [] []) [askA (.sl (nodesA ns) ns.length t) gen n c s ss sn owns] h = some (.ret (.int .u32 (sizeB x s (owns || mayX x c 2))), h) := by
  have c1 : ∀ (f : FuncId) (h : H), (evAll TE (m + 5)).1 f (.fn 47 [] []) [askA (.sl (nodesA ns) ns.length t) gen n c s ss sn owns] h = some (.ret (.bool (owns || mayX x c 2)), h) := fun f h => writes_c m f h ns t gen n c hc s ss sn owns hok hn x hx
  obtain ⟨w, hw⟩ : ∃ w, w = (owns || mayX x c 2) := ⟨_, rfl⟩
  rw [← hw] at c1 ⊢
  clear hw
  obtain ⟨r, hr⟩ : ∃ r, r = sizeB x s w := ⟨_, rfl⟩
  rw [← hr]
  unfold sizeB at hr
  unfold thereS at hn
  rw [Bool.and_eq_true, Bool.and_eq_true, decide_eq_true_eq, decide_eq_true_eq] at hn
  have hn0 : 0 ≤ n := by omega
  have hn1 := hn.2.1
  have hcell := (nodesA_cell hx 0 (by decide)).trans (b := (nodeA x)[0]?) rfl
  have hcell : (nodesA ns)[n.toNat * 25 + 0]? = some (.int .u32 x.kind) := hcell
  clear hn hok
  obtain ⟨kd, hkd⟩ : ∃ k, k = x.kind := ⟨_, rfl⟩
  rw [← hkd] at hcell hr
  clear hkd hx
  obtain ⟨u, gr, gs, l⟩ := c
  obtain ⟨h1, h2⟩ := hc
  dsimp only at h1 h2
  obtain ⟨hm, mode, hu, user, hg, group, hs, size, rh, rs, rn, wh, ws, wn⟩ := s
  unfold askA at c1 ⊢
  dsimp only at c1 hr ⊢
  rcases h1 with ⟨rfl, rfl⟩ | ⟨tt, rfl⟩
  all_goals refine call_clean (fn := Try.f25) rfl Try.func25 rfl rfl rfl rfl rfl (Nat.le_of_ble_eq_true rfl) ?_
  all_goals
    conv => whnf
    (refine runK_ret (ev_indexSl (sz := 25) rfl rfl rfl rfl hn0 hn1) ?_)
    conv => whnf
    (refine runK_ret (ev_loadV (z := 1) rfl rfl rfl hcell) ?_)
    conv => whnf
    cases hs
    · conv => whnf
      (rw [hr]; simp_all; done)
    · conv => whnf
      cases z1 : kd == Int.ofNat 2
      · conv => whnf
        cases z2 : kd == Int.ofNat 5
        · conv => whnf
          cases z3 : decide (size > Int.ofNat 65536)
          · conv => whnf
            with_reducible refine ⟨_, _, c1 _ _, ?_⟩
            conv => whnf
            cases w
            · conv => whnf
              (rw [hr]; simp_all; done)
            · conv => whnf
              (rw [hr]; simp_all; done)
          · conv => whnf
            (rw [hr]; simp_all; done)
        · conv => whnf
          (rw [hr]; simp_all; done)
      · conv => whnf
        (rw [hr]; simp_all; done)
set_option maxHeartbeats 4000000 in
theorem stamps_c : evCall TE (m + 6) from_ (.fn 26 [] []) [askA (.sl (nodesA ns) ns.length t) gen n c s ss sn owns] h = some (.ret (.int .u32 (stampsB s owns (owns || mayX x c 2))), h) := by
  have c1 : ∀ (f : FuncId) (h : H), (evAll TE (m + 5)).1 f (.fn 47 [] []) [askA (.sl (nodesA ns) ns.length t) gen n c s ss sn owns] h = some (.ret (.bool (owns || mayX x c 2)), h) := fun f h => writes_c m f h ns t gen n c hc s ss sn owns hok hn x hx
  have c2 : ∀ (f : FuncId) (h : H), (evAll TE (m + 5)).1 f (.fn 45 [] []) [askA (.sl (nodesA ns) ns.length t) gen n c s ss sn owns] h = some (.ret (.agg [.int .u32 s.rh, .int .u32 s.rs, .int .u32 s.rn, .int .u32 s.wh, .int .u32 s.ws, .int .u32 s.wn]), h) := fun f h => times2_c (m + 4) f h ns t gen n c hc s ss sn owns
  obtain ⟨w, hw⟩ : ∃ w, w = (owns || mayX x c 2) := ⟨_, rfl⟩
  rw [← hw] at c1 ⊢
  clear hw
  obtain ⟨r, hr⟩ : ∃ r, r = stampsB s owns w := ⟨_, rfl⟩
  rw [← hr]
  unfold stampsB at hr
  clear hn hok hx
  obtain ⟨u, gr, gs, l⟩ := c
  obtain ⟨h1, h2⟩ := hc
  dsimp only at h1 h2
  obtain ⟨hm, mode, hu, user, hg, group, hs, size, rh, rs, rn, wh, ws, wn⟩ := s
  unfold askA at c1 c2 ⊢
  dsimp only at c1 c2 hr ⊢
  rcases h1 with ⟨rfl, rfl⟩ | ⟨tt, rfl⟩
  all_goals refine call_clean (fn := Try.f26) rfl Try.func26 rfl rfl rfl rfl rfl (Nat.le_of_ble_eq_true rfl) ?_
  all_goals
    conv => whnf
    with_reducible refine ⟨_, _, c2 _ _, ?_⟩
    conv => whnf
    (with_reducible refine ⟨(3 : Nat), ?_, ?_⟩; · exact Nat.le_of_ble_eq_true rfl)
    conv => whnf
    (refine ⟨by kernel_rfl, ?_⟩)
    conv => whnf
    cases z0 : rh == Int.ofNat 2
    · conv => whnf
      cases z1 : rh == Int.ofNat 1
      · conv => whnf
        (refine ⟨by kernel_rfl, ?_⟩)
        conv => whnf
        cases z2 : wh == Int.ofNat 2
        · conv => whnf
          cases z3 : wh == Int.ofNat 1
          · conv => whnf
            (rw [hr]; simp_all; done)
          · conv => whnf
            with_reducible refine ⟨_, _, c1 _ _, ?_⟩
            conv => whnf
            cases w
            · conv => whnf
              (rw [hr]; simp_all; done)
            · conv => whnf
              (rw [hr]; simp_all; done)
        · conv => whnf
          cases owns
          · conv => whnf
            (rw [hr]; simp_all; done)
          · conv => whnf
            cases z6 : wh == Int.ofNat 1
            · conv => whnf
              (rw [hr]; simp_all; done)
            · conv => whnf
              with_reducible refine ⟨_, _, c1 _ _, ?_⟩
              conv => whnf
              cases w
              · conv => whnf
                (rw [hr]; simp_all; done)
              · conv => whnf
                (rw [hr]; simp_all; done)
      · conv => whnf
        (refine ⟨by kernel_rfl, ?_⟩)
        conv => whnf
        cases z8 : wh == Int.ofNat 2
        · conv => whnf
          with_reducible refine ⟨_, _, c1 _ _, ?_⟩
          conv => whnf
          cases w
          · conv => whnf
            (rw [hr]; simp_all; done)
          · conv => whnf
            (rw [hr]; simp_all; done)
        · conv => whnf
          cases owns
          · conv => whnf
            (rw [hr]; simp_all; done)
          · conv => whnf
            with_reducible refine ⟨_, _, c1 _ _, ?_⟩
            conv => whnf
            cases w
            · conv => whnf
              (rw [hr]; simp_all; done)
            · conv => whnf
              (rw [hr]; simp_all; done)
    · conv => whnf
      cases z12 : rh == Int.ofNat 1
      · conv => whnf
        (refine ⟨by kernel_rfl, ?_⟩)
        conv => whnf
        cases owns
        · conv => whnf
          (rw [hr]; simp_all; done)
        · conv => whnf
          cases z14 : wh == Int.ofNat 1
          · conv => whnf
            (rw [hr]; simp_all; done)
          · conv => whnf
            with_reducible refine ⟨_, _, c1 _ _, ?_⟩
            conv => whnf
            cases w
            · conv => whnf
              (rw [hr]; simp_all; done)
            · conv => whnf
              (rw [hr]; simp_all; done)
      · conv => whnf
        (refine ⟨by kernel_rfl, ?_⟩)
        conv => whnf
        cases owns
        · conv => whnf
          (rw [hr]; simp_all; done)
        · conv => whnf
          with_reducible refine ⟨_, _, c1 _ _, ?_⟩
          conv => whnf
          cases w
          · conv => whnf
            (rw [hr]; simp_all; done)
          · conv => whnf
            (rw [hr]; simp_all; done)
end
end Go.Proofs.Ytlglhnadalbddaa.Ab
/- Over the engine: are two trees alike? -/
namespace Go.Proofs.Ytlglhnadalbddaa.Ab
open Go Go.RowKit

def allSame {α : Type} (f : α → α → Bool) : List α → List α → Bool
  | [], [] => true
  | a :: x, b :: y => f a b && allSame f x y
  | _, _ => false
theorem allSame_len {α : Type} {f : α → α → Bool} : ∀ {x y : List α}, allSame f x y = true → x.length = y.length
  | [], [], _ => rfl
  | [], _ :: _, h => by simp [allSame] at h
  | _ :: _, [], h => by simp [allSame] at h
  | a :: x, b :: y, h => by
    simp only [allSame, Bool.and_eq_true] at h
    simp [allSame_len h.2]
theorem allSame_ne {α : Type} {f : α → α → Bool} {x y : List α} (h : x.length ≠ y.length) : allSame f x y = false := by
  cases hb : allSame f x y with
  | false => rfl
  | true => exact absurd (allSame_len hb) h
theorem allSame_drop {α : Type} {f : α → α → Bool} {x y : List α} {i : Nat} {a b : α} (ha : x[i]? = some a) (hb : y[i]? = some b) : allSame f (x.drop i) (y.drop i) = (f a b && allSame f (x.drop (i + 1)) (y.drop (i + 1))) := by
  obtain ⟨h1, rfl⟩ := List.getElem?_eq_some_iff.1 ha
  obtain ⟨h2, rfl⟩ := List.getElem?_eq_some_iff.1 hb
  rw [List.drop_eq_getElem_cons h1, List.drop_eq_getElem_cons h2, allSame]
theorem allSame_eq {α : Type} [DecidableEq α] : ∀ {x y : List α}, allSame (fun a b => decide (a = b)) x y = decide (x = y)
  | [], [] => rfl
  | [], _ :: _ => by simp [allSame]
  | _ :: _, [] => by simp [allSame]
  | a :: x, b :: y => by simp [allSame, allSame_eq (x := x) (y := y)]
def intEq (a b : Int) : Bool := decide (a = b)
theorem allSame_int {x y : List Int} : allSame intEq x y = decide (x = y) := allSame_eq
def entEq (a b : EntryS) : Bool := a.name == b.name && (a.node == b.node && (a.cookie == b.cookie && true))
theorem entEq_iff {a b : EntryS} : entEq a b = true ↔ a = b := by
  obtain ⟨n, k, c⟩ := a
  obtain ⟨n', k', c'⟩ := b
  simp [entEq]
set_option maxRecDepth 100000

def sameBytesS (l1 : List Int) (t1 : Bool) (l2 : List Int) (t2 : Bool) (i : Int) : ST :=
  ⟨RG.of 26 [(5, .int .i64 i), (1, .sl (numsA .u8 l2) l2.length t2), (0, .sl (numsA .u8 l1) l1.length t1)], ⟨[], []⟩⟩
set_option maxHeartbeats 2000000 in
theorem sameBytes_c (m : Nat) (from_ : FuncId) (h : H) (v1 v2 : AV) (l1 l2 : List Int) (hv1 : rowOk .u8 v1 l1) (hv2 : rowOk .u8 v2 l2) (hl : l1.length ≤ 140737488351232) : evCall TE (m + 1) from_ (.fn 36 [] []) [v1, v2] h = some (.ret (.bool (allSame intEq l1 l2)), h) := by
  rcases hv1 with ⟨rfl, rfl⟩ | ⟨t1, rfl⟩ <;> rcases hv2 with ⟨rfl, rfl⟩ | ⟨t2, rfl⟩
  · refine call_clean (fn := Try.f36) rfl Try.func36 rfl rfl rfl rfl rfl (Nat.le_of_ble_eq_true rfl) ?_
    conv => whnf
    refine ⟨2, Nat.le_of_ble_eq_true rfl, ?_⟩
    conv => whnf
    rfl
  · cases l2 with
    | nil =>
      refine call_clean (fn := Try.f36) rfl Try.func36 rfl rfl rfl rfl rfl (Nat.le_of_ble_eq_true rfl) ?_
      conv => whnf
      refine ⟨2, Nat.le_of_ble_eq_true rfl, ?_⟩
      conv => whnf
      rfl
    | cons y l2 =>
      refine call_clean (fn := Try.f36) rfl Try.func36 rfl rfl rfl rfl rfl (Nat.le_of_ble_eq_true rfl) ?_
      conv => whnf
      rfl
  · cases l1 with
    | nil =>
      refine call_clean (fn := Try.f36) rfl Try.func36 rfl rfl rfl rfl rfl (Nat.le_of_ble_eq_true rfl) ?_
      conv => whnf
      refine ⟨2, Nat.le_of_ble_eq_true rfl, ?_⟩
      conv => whnf
      rfl
    | cons y l1 =>
      refine call_clean (fn := Try.f36) rfl Try.func36 rfl rfl rfl rfl rfl (Nat.le_of_ble_eq_true rfl) ?_
      conv => whnf
      rfl
  obtain ⟨r, hr⟩ : ∃ r, r = allSame intEq l1 l2 := ⟨_, rfl⟩
  rw [← hr]
  refine call_clean (fn := Try.f36) rfl Try.func36 rfl rfl rfl rfl rfl (Nat.le_of_ble_eq_true rfl) ?_
  conv => whnf
  cases hne : ((l1.length : Int) != (l2.length : Int)) with
  | true =>
    conv => whnf
    have hne : l1.length ≠ l2.length := by
      have : ¬ ((l1.length : Int) = (l2.length : Int)) := by simpa [bne] using hne
      omega
    rw [hr, allSame_ne hne]
  | false =>
    have hne : l1.length = l2.length := by
      have : ((l1.length : Int) = (l2.length : Int)) := by simpa [bne] using hne
      omega
    conv => whnf
    refine ⟨l1.length + 1, by show l1.length + 1 ≤ 4611686018427387904; omega, ?_⟩
    refine rounds_ind (sameBytesS l1 t1 l2 t2) (fun i => 0 ≤ i ∧ i ≤ l1.length ∧ r = allSame intEq (l1.drop i.toNat) (l2.drop i.toNat)) (fun i => (l1.length - i).toNat) ?_ _ 0 _ ⟨by omega, by omega, hr⟩ (by omega) (by kernel_rfl)
    intro i m' hI ih
    obtain ⟨hI0, hI1, hI2⟩ := hI
    conv => whnf
    cases h1 : decide (i < (l1.length : Int)) with
    | false =>
      have h1 := of_decide_eq_false h1
      conv => whnf
      rw [hI2, List.drop_eq_nil_of_le (by omega), List.drop_eq_nil_of_le (by omega)]
      rfl
    | true =>
      have h1 := of_decide_eq_true h1
      have h2 : i < (l2.length : Int) := by omega
      obtain ⟨x, hx⟩ : ∃ x, l1[i.toNat]? = some x := ⟨_, List.getElem?_eq_getElem (by omega)⟩
      obtain ⟨y, hy⟩ : ∃ y, l2[i.toNat]? = some y := ⟨_, List.getElem?_eq_getElem (by omega)⟩
      rw [allSame_drop hx hy] at hI2
      have hw : IntKind.wrap .i64 (i + 1) = i + 1 := wrap64 (by omega) (by omega)
      have hmu : (l1.length - IntKind.wrap .i64 (i + 1)).toNat < (l1.length - i).toNat := by rw [hw]; omega
      have hst : intEq x y = true → 0 ≤ IntKind.wrap .i64 (i + 1) ∧ IntKind.wrap .i64 (i + 1) ≤ l1.length ∧ r = allSame intEq (l1.drop (IntKind.wrap .i64 (i + 1)).toNat) (l2.drop (IntKind.wrap .i64 (i + 1)).toNat) := by
        intro he
        rw [show intEq x y = true from he, Bool.true_and] at hI2
        rw [hw, show (i + 1).toNat = i.toNat + 1 by omega]
        exact ⟨by omega, by omega, hI2⟩
      have hfa : intEq x y = false → r = false := by
        intro he
        rw [hI2, show intEq x y = false from he]
        rfl
      have hc1 : (numsA .u8 l1)[i.toNat * 1]? = some (.int .u8 x) := by rw [Nat.mul_one, numsA, List.getElem?_map, hx]; rfl
      have hc2 : (numsA .u8 l2)[i.toNat * 1]? = some (.int .u8 y) := by rw [Nat.mul_one, numsA, List.getElem?_map, hy]; rfl
      conv => whnf
      (refine runK_ret (ev_indexSl (cells := numsA .u8 l1) (sz := 1) rfl rfl rfl rfl hI0 h1) ?_)
      conv => whnf
      (refine runK_ret (ev_loadV (z := 1) rfl rfl rfl hc1) ?_)
      conv => whnf
      (refine runK_ret (ev_indexSl (cells := numsA .u8 l2) (sz := 1) rfl rfl rfl rfl hI0 h2) ?_)
      conv => whnf
      (refine runK_ret (ev_loadV (z := 1) rfl rfl rfl hc2) ?_)
      conv => whnf
      (refine ⟨by kernel_rfl, ?_⟩)
      conv => whnf
      cases z0 : x != y
      · conv => whnf
        (exact     ih (IntKind.wrap .i64 (i + 1)) _ (hst (by have : (x != y) = false := ‹_›; simpa [bne, intEq] using this)) hmu       (by kernel_rfl))
      · conv => whnf
        (rw [hfa (by have : (x != y) = true := ‹_›; simpa [bne, intEq] using this)])

def sameEntsS (l1 : List EntryS) (t1 : Bool) (l2 : List EntryS) (t2 : Bool) (i : Int) : ST :=
  ⟨RG.of 26 [(5, .int .i64 i), (1, .sl (entriesA l2) l2.length t2), (0, .sl (entriesA l1) l1.length t1)], ⟨[], []⟩⟩
set_option maxHeartbeats 2000000 in
theorem sameEnts_c (m : Nat) (from_ : FuncId) (h : H) (v1 v2 : AV) (l1 l2 : List EntryS) (hv1 : entsOk v1 l1) (hv2 : entsOk v2 l2) (hl : l1.length ≤ 140737488351232) : evCall TE (m + 1) from_ (.fn 37 [] []) [v1, v2] h = some (.ret (.bool (allSame entEq l1 l2)), h) := by
  rcases hv1 with ⟨rfl, rfl⟩ | ⟨t1, rfl⟩ <;> rcases hv2 with ⟨rfl, rfl⟩ | ⟨t2, rfl⟩
  · refine call_clean (fn := Try.f37) rfl Try.func37 rfl rfl rfl rfl rfl (Nat.le_of_ble_eq_true rfl) ?_
    conv => whnf
    refine ⟨2, Nat.le_of_ble_eq_true rfl, ?_⟩
    conv => whnf
    rfl
  · cases l2 with
    | nil =>
      refine call_clean (fn := Try.f37) rfl Try.func37 rfl rfl rfl rfl rfl (Nat.le_of_ble_eq_true rfl) ?_
      conv => whnf
      refine ⟨2, Nat.le_of_ble_eq_true rfl, ?_⟩
      conv => whnf
      rfl
    | cons y l2 =>
      refine call_clean (fn := Try.f37) rfl Try.func37 rfl rfl rfl rfl rfl (Nat.le_of_ble_eq_true rfl) ?_
      conv => whnf
      rfl
  · cases l1 with
    | nil =>
      refine call_clean (fn := Try.f37) rfl Try.func37 rfl rfl rfl rfl rfl (Nat.le_of_ble_eq_true rfl) ?_
      conv => whnf
      refine ⟨2, Nat.le_of_ble_eq_true rfl, ?_⟩
      conv => whnf
      rfl
    | cons y l1 =>
      refine call_clean (fn := Try.f37) rfl Try.func37 rfl rfl rfl rfl rfl (Nat.le_of_ble_eq_true rfl) ?_
      conv => whnf
      rfl
  obtain ⟨r, hr⟩ : ∃ r, r = allSame entEq l1 l2 := ⟨_, rfl⟩
  rw [← hr]
  refine call_clean (fn := Try.f37) rfl Try.func37 rfl rfl rfl rfl rfl (Nat.le_of_ble_eq_true rfl) ?_
  conv => whnf
  cases hne : ((l1.length : Int) != (l2.length : Int)) with
  | true =>
    conv => whnf
    have hne : l1.length ≠ l2.length := by
      have : ¬ ((l1.length : Int) = (l2.length : Int)) := by simpa [bne] using hne
      omega
    rw [hr, allSame_ne hne]
  | false =>
    have hne : l1.length = l2.length := by
      have : ((l1.length : Int) = (l2.length : Int)) := by simpa [bne] using hne
      omega
    conv => whnf
    refine ⟨l1.length + 1, by show l1.length + 1 ≤ 4611686018427387904; omega, ?_⟩
    refine rounds_ind (sameEntsS l1 t1 l2 t2) (fun i => 0 ≤ i ∧ i ≤ l1.length ∧ r = allSame entEq (l1.drop i.toNat) (l2.drop i.toNat)) (fun i => (l1.length - i).toNat) ?_ _ 0 _ ⟨by omega, by omega, hr⟩ (by omega) (by kernel_rfl)
    intro i m' hI ih
    obtain ⟨hI0, hI1, hI2⟩ := hI
    conv => whnf
    cases h1 : decide (i < (l1.length : Int)) with
    | false =>
      have h1 := of_decide_eq_false h1
      conv => whnf
      rw [hI2, List.drop_eq_nil_of_le (by omega), List.drop_eq_nil_of_le (by omega)]
      rfl
    | true =>
      have h1 := of_decide_eq_true h1
      have h2 : i < (l2.length : Int) := by omega
      obtain ⟨x, hx⟩ : ∃ x, l1[i.toNat]? = some x := ⟨_, List.getElem?_eq_getElem (by omega)⟩
      obtain ⟨y, hy⟩ : ∃ y, l2[i.toNat]? = some y := ⟨_, List.getElem?_eq_getElem (by omega)⟩
      rw [allSame_drop hx hy] at hI2
      have hw : IntKind.wrap .i64 (i + 1) = i + 1 := wrap64 (by omega) (by omega)
      have hmu : (l1.length - IntKind.wrap .i64 (i + 1)).toNat < (l1.length - i).toNat := by rw [hw]; omega
      have hst : entEq x y = true → 0 ≤ IntKind.wrap .i64 (i + 1) ∧ IntKind.wrap .i64 (i + 1) ≤ l1.length ∧ r = allSame entEq (l1.drop (IntKind.wrap .i64 (i + 1)).toNat) (l2.drop (IntKind.wrap .i64 (i + 1)).toNat) := by
        intro he
        rw [show entEq x y = true from he, Bool.true_and] at hI2
        rw [hw, show (i + 1).toNat = i.toNat + 1 by omega]
        exact ⟨by omega, by omega, hI2⟩
      have hfa : entEq x y = false → r = false := by
        intro he
        rw [hI2, show entEq x y = false from he]
        rfl
      have hc1 : i.toNat * 3 + 3 ≤ (entriesA l1).length := by rw [entriesA_len]; omega
      have hc2 : i.toNat * 3 + 3 ≤ (entriesA l2).length := by rw [entriesA_len]; omega
      have hd1 := entriesA_entry hx
      have hd2 := entriesA_entry hy
      obtain ⟨xa, xb, xc⟩ := x
      obtain ⟨ya, yb, yc⟩ := y
      conv => whnf
      (refine runK_ret (ev_indexSl (cells := entriesA l1) (sz := 3) rfl rfl rfl rfl hI0 h1) ?_)
      conv => whnf
      (refine runK_ret (ev_loadVA (z := 3) rfl rfl rfl hc1 hd1) ?_)
      conv => whnf
      (refine runK_ret (ev_indexSl (cells := entriesA l2) (sz := 3) rfl rfl rfl rfl hI0 h2) ?_)
      conv => whnf
      (refine runK_ret (ev_loadVA (z := 3) rfl rfl rfl hc2 hd2) ?_)
      conv => whnf
      (refine ⟨by kernel_rfl, ?_⟩)
      conv => whnf
      cases z0 : xa == ya && (xb == yb && (xc == yc && true))
      · conv => whnf
        (rw [hfa (show (xa == ya && (xb == yb && (xc == yc && true))) = false from ‹_›)])
      · conv => whnf
        (exact     ih (IntKind.wrap .i64 (i + 1)) _ (hst (show (xa == ya && (xb == yb && (xc == yc && true))) = true from ‹_›)) hmu       (by kernel_rfl))

def verfEq (x y : NodeS) : Bool := x.verf 0 == y.verf 0 && (x.verf 1 == y.verf 1 && (x.verf 2 == y.verf 2 && (x.verf 3 == y.verf 3 && (x.verf 4 == y.verf 4 && (x.verf 5 == y.verf 5 && (x.verf 6 == y.verf 6 && (x.verf 7 == y.verf 7 && true)))))))
def nodeEq (x y : NodeS) : Bool :=
  x.kind == y.kind && (x.gen == y.gen && (x.mode == y.mode && (x.user == y.user && (x.group == y.group && (x.links == y.links && ((x.rs == y.rs && (x.rn == y.rn && true)) && ((x.ws == y.ws && (x.wn == y.wn && true)) && ((x.ts == y.ts && (x.tn == y.tn && true)) &&
  (allSame intEq x.bytes y.bytes && (verfEq x y && (x.target == y.target && (allSame entEq x.ents y.ents && (x.parent == y.parent && x.next == y.next)))))))))))))
set_option maxHeartbeats 8000000 in
theorem sameNode_c (m : Nat) (from_ : FuncId) (h : H) (x y : NodeS) (hx : x.ok) (hy : y.ok) (hxl : x.bytes.length ≤ 140737488351232) (hxe : x.ents.length ≤ 140737488351232) : evCall TE (m + 2) from_ (.fn 8 [] []) [.agg (nodeA x), .agg (nodeA y)] h = some (.ret (.bool (nodeEq x y)), h) := by
  have c1 : ∀ (f : FuncId) (h : H), (evAll TE (m + 1)).1 f (.fn 36 [] []) [x.data, y.data] h = some (.ret (.bool (allSame intEq x.bytes y.bytes)), h) := fun f h => sameBytes_c m f h _ _ _ _ hx.1 hy.1 hxl
  have c2 : ∀ (f : FuncId) (h : H), (evAll TE (m + 1)).1 f (.fn 37 [] []) [x.list, y.list] h = some (.ret (.bool (allSame entEq x.ents y.ents)), h) := fun f h => sameEnts_c m f h _ _ _ _ hx.2 hy.2 hxe
  obtain ⟨r, hr⟩ : ∃ r, r = nodeEq x y := ⟨_, rfl⟩
  rw [← hr]
  unfold nodeEq at hr
  obtain ⟨qb, hqb⟩ : ∃ q, q = allSame intEq x.bytes y.bytes := ⟨_, rfl⟩
  obtain ⟨qe, hqe⟩ : ∃ q, q = allSame entEq x.ents y.ents := ⟨_, rfl⟩
  obtain ⟨qv, hqv⟩ : ∃ q, q = verfEq x y := ⟨_, rfl⟩
  rw [← hqb] at c1 hr
  rw [← hqe] at c2 hr
  rw [← hqv] at hr
  clear hqb hqe hxl hxe
  unfold verfEq at hqv
  obtain ⟨kd, ge, mo, us, ng, li, xrs, xrn, xws, xwn, ts, tn, da, by_, vf, ta, ls, es, pa, nx⟩ := x
  obtain ⟨kd', ge', mo', us', ng', li', xrs', xrn', xws', xwn', ts', tn', da', by_', vf', ta', ls', es', pa', nx'⟩ := y
  simp only [NodeS.ok, rowOk, entsOk] at hx hy
  obtain ⟨hd, hl⟩ := hx
  obtain ⟨hd', hl'⟩ := hy
  dsimp only at c1 c2 hr hqv
  rcases hd with ⟨rfl, rfl⟩ | ⟨dt, rfl⟩ <;> rcases hl with ⟨rfl, rfl⟩ | ⟨lt, rfl⟩ <;> rcases hd' with ⟨rfl, rfl⟩ | ⟨dt', rfl⟩ <;> rcases hl' with ⟨rfl, rfl⟩ | ⟨lt', rfl⟩
  all_goals refine call_clean (fn := Try.f8) rfl Try.func8 rfl rfl rfl rfl rfl (Nat.le_of_ble_eq_true rfl) ?_
  all_goals
    conv => whnf
    cases z0 : kd == kd'
    · conv => whnf
      (rw [hr]; simp only [*, Bool.true_and, Bool.and_true, Bool.false_and, Bool.and_false]; done)
    · conv => whnf
      cases z1 : ge == ge'
      · conv => whnf
        (rw [hr]; simp only [*, Bool.true_and, Bool.and_true, Bool.false_and, Bool.and_false]; done)
      · conv => whnf
        cases z2 : mo == mo'
        · conv => whnf
          (rw [hr]; simp only [*, Bool.true_and, Bool.and_true, Bool.false_and, Bool.and_false]; done)
        · conv => whnf
          cases z3 : us == us'
          · conv => whnf
            (rw [hr]; simp only [*, Bool.true_and, Bool.and_true, Bool.false_and, Bool.and_false]; done)
          · conv => whnf
            cases z4 : ng == ng'
            · conv => whnf
              (rw [hr]; simp only [*, Bool.true_and, Bool.and_true, Bool.false_and, Bool.and_false]; done)
            · conv => whnf
              cases z5 : li == li'
              · conv => whnf
                (rw [hr]; simp only [*, Bool.true_and, Bool.and_true, Bool.false_and, Bool.and_false]; done)
              · conv => whnf
                cases z6 : xrs == xrs' && (xrn == xrn' && true)
                · conv => whnf
                  (rw [hr, hqv]; simp_all; done)
                · conv => whnf
                  cases z7 : xws == xws' && (xwn == xwn' && true)
                  · conv => whnf
                    (rw [hr, hqv]; simp_all; done)
                  · conv => whnf
                    cases z8 : ts == ts' && (tn == tn' && true)
                    · conv => whnf
                      (rw [hr, hqv]; simp_all; done)
                    · conv => whnf
                      with_reducible refine ⟨_, _, c1 _ _, ?_⟩
                      conv => whnf
                      cases qb
                      · conv => whnf
                        (rw [hr]; simp only [*, Bool.true_and, Bool.and_true, Bool.false_and, Bool.and_false]; done)
                      · conv => whnf
                        cases z10 :   vf 0 == vf' 0 &&     (vf 1 == vf' 1 &&       (vf 2 == vf' 2 &&         (vf 3 == vf' 3 && (vf 4 == vf' 4 && (vf 5 == vf' 5 && (vf 6 == vf' 6 && (vf 7 == vf' 7 && true)))))))
                        · conv => whnf
                          (rw [hr, hqv]; simp_all; done)
                        · conv => whnf
                          cases z11 : ta == ta'
                          · conv => whnf
                            (rw [hr]; simp only [*, Bool.true_and, Bool.and_true, Bool.false_and, Bool.and_false]; done)
                          · conv => whnf
                            with_reducible refine ⟨_, _, c2 _ _, ?_⟩
                            conv => whnf
                            cases qe
                            · conv => whnf
                              (rw [hr]; simp only [*, Bool.true_and, Bool.and_true, Bool.false_and, Bool.and_false]; done)
                            · conv => whnf
                              cases z13 : pa == pa'
                              · conv => whnf
                                (rw [hr]; simp only [*, Bool.true_and, Bool.and_true, Bool.false_and, Bool.and_false]; done)
                              · conv => whnf
                                (rw [hr, hqv]; simp_all; done)

end Go.Proofs.Ytlglhnadalbddaa.Ab
/- Over the engine: what is set of a node, in plain words; set twice is set once. -/
namespace Go.Proofs.Ytlglhnadalbddaa.Ab
open Go Go.RowKit

/-- A file's bytes, so many. -/
def sized (l : List Int) (n : Nat) : List Int := l.take n ++ List.replicate (n - l.length) 0
theorem sized_len (l : List Int) (n : Nat) : (sized l n).length = n := by
  unfold sized
  rw [List.length_append, List.length_take, List.length_replicate]
  omega
theorem sized_self {l : List Int} {n : Nat} (h : l.length = n) : sized l n = l := by
  unfold sized
  rw [List.take_of_length_le (by omega), show n - l.length = 0 by omega]
  simp
/-- The deeds, one after the other. -/
def turned (x : NodeS) (ss sn : Int) : NodeS := { x with ts := ss, tn := sn }
def deed1 (s : SetS) (ss sn : Int) (x : NodeS) : NodeS := if s.hm = true then { x with mode := s.mode, ts := ss, tn := sn } else x
def deed2 (s : SetS) (ss sn : Int) (x : NodeS) : NodeS := if s.hu = true then { x with user := s.user, ts := ss, tn := sn } else x
def deed3 (s : SetS) (ss sn : Int) (x : NodeS) : NodeS := if s.hg = true then { x with group := s.group, ts := ss, tn := sn } else x
def deed4 (s : SetS) (ss sn : Int) (d : AV) (x : NodeS) : NodeS := if s.hs = true then { x with data := d, bytes := sized x.bytes s.size.toNat, ws := ss, wn := sn, ts := ss, tn := sn } else x
def deed5 (s : SetS) (ss sn : Int) (x : NodeS) : NodeS := if (s.rh == 2) = true then { x with rs := s.rs, rn := s.rn, ts := ss, tn := sn } else if (s.rh == 1) = true then { x with rs := ss, rn := sn, ts := ss, tn := sn } else x
def deed6 (s : SetS) (ss sn : Int) (x : NodeS) : NodeS := if (s.wh == 2) = true then { x with ws := s.ws, wn := s.wn, ts := ss, tn := sn } else if (s.wh == 1) = true then { x with ws := ss, wn := sn, ts := ss, tn := sn } else x
def deeds (s : SetS) (ss sn : Int) (d : AV) (x : NodeS) : NodeS := deed6 s ss sn (deed5 s ss sn (deed4 s ss sn d (deed3 s ss sn (deed2 s ss sn (deed1 s ss sn x)))))
theorem verfEq_self (x y : NodeS) (h : x.verf = y.verf) : verfEq x y = true := by
  unfold verfEq
  rw [h]
  simp
theorem entsEq_self (l : List EntryS) : allSame entEq l l = true := by
  induction l with
  | nil => rfl
  | cons a l ih => rw [allSame, ih, Bool.and_true]; exact entEq_iff.2 rfl
theorem bytesEq_self (l : List Int) : allSame intEq l l = true := by
  rw [allSame_int]
  simp
/-- A node, but for how its rows are told. -/
def likeN (x y : NodeS) : Prop := x.kind = y.kind ∧ x.gen = y.gen ∧ x.mode = y.mode ∧ x.user = y.user ∧ x.group = y.group ∧ x.links = y.links ∧ x.rs = y.rs ∧ x.rn = y.rn ∧ x.ws = y.ws ∧ x.wn = y.wn ∧ x.ts = y.ts ∧ x.tn = y.tn ∧ x.bytes = y.bytes ∧ x.verf = y.verf ∧ x.target = y.target ∧ x.ents = y.ents ∧ x.parent = y.parent ∧ x.next = y.next
theorem nodeEq_of {x y : NodeS} (h : likeN x y) : nodeEq x y = true := by
  obtain ⟨h1, h2, h3, h4, h5, h6, h7, h8, h9, h10, h11, h12, h13, h14, h15, h16, h17, h18⟩ := h
  unfold nodeEq
  rw [h1, h2, h3, h4, h5, h6, h7, h8, h9, h10, h11, h12, h13, h15, h16, h17, h18, verfEq_self x y h14, entsEq_self, bytesEq_self]
  simp
section
variable (s : SetS) (ss sn : Int) (d : AV) (y : NodeS)
theorem deeds_kind : (deeds s ss sn d y).kind = y.kind := by
  simp only [deeds, deed6, deed5, deed4, deed3, deed2, deed1, apply_ite NodeS.kind, ite_self]
theorem deeds_gen : (deeds s ss sn d y).gen = y.gen := by
  simp only [deeds, deed6, deed5, deed4, deed3, deed2, deed1, apply_ite NodeS.gen, ite_self]
theorem deeds_mode : (deeds s ss sn d y).mode = if s.hm = true then s.mode else y.mode := by
  simp only [deeds, deed6, deed5, deed4, deed3, deed2, deed1, apply_ite NodeS.mode, ite_self]
theorem deeds_user : (deeds s ss sn d y).user = if s.hu = true then s.user else y.user := by
  simp only [deeds, deed6, deed5, deed4, deed3, deed2, deed1, apply_ite NodeS.user, ite_self]
theorem deeds_group : (deeds s ss sn d y).group = if s.hg = true then s.group else y.group := by
  simp only [deeds, deed6, deed5, deed4, deed3, deed2, deed1, apply_ite NodeS.group, ite_self]
theorem deeds_links : (deeds s ss sn d y).links = y.links := by
  simp only [deeds, deed6, deed5, deed4, deed3, deed2, deed1, apply_ite NodeS.links, ite_self]
theorem deeds_rs : (deeds s ss sn d y).rs = if (s.rh == 2) = true then s.rs else if (s.rh == 1) = true then ss else y.rs := by
  simp only [deeds, deed6, deed5, deed4, deed3, deed2, deed1, apply_ite NodeS.rs, ite_self]
theorem deeds_rn : (deeds s ss sn d y).rn = if (s.rh == 2) = true then s.rn else if (s.rh == 1) = true then sn else y.rn := by
  simp only [deeds, deed6, deed5, deed4, deed3, deed2, deed1, apply_ite NodeS.rn, ite_self]
theorem deeds_ws : (deeds s ss sn d y).ws = if (s.wh == 2) = true then s.ws else if (s.wh == 1) = true then ss else if s.hs = true then ss else y.ws := by
  simp only [deeds, deed6, deed5, deed4, deed3, deed2, deed1, apply_ite NodeS.ws, ite_self]
theorem deeds_wn : (deeds s ss sn d y).wn = if (s.wh == 2) = true then s.wn else if (s.wh == 1) = true then sn else if s.hs = true then sn else y.wn := by
  simp only [deeds, deed6, deed5, deed4, deed3, deed2, deed1, apply_ite NodeS.wn, ite_self]
theorem deeds_ts : (deeds s ss sn d y).ts = if (s.wh == 2) = true then ss else if (s.wh == 1) = true then ss else if (s.rh == 2) = true then ss else if (s.rh == 1) = true then ss else if s.hs = true then ss else if s.hg = true then ss else if s.hu = true then ss else if s.hm = true then ss else y.ts := by
  simp only [deeds, deed6, deed5, deed4, deed3, deed2, deed1, apply_ite NodeS.ts, ite_self]
theorem deeds_tn : (deeds s ss sn d y).tn = if (s.wh == 2) = true then sn else if (s.wh == 1) = true then sn else if (s.rh == 2) = true then sn else if (s.rh == 1) = true then sn else if s.hs = true then sn else if s.hg = true then sn else if s.hu = true then sn else if s.hm = true then sn else y.tn := by
  simp only [deeds, deed6, deed5, deed4, deed3, deed2, deed1, apply_ite NodeS.tn, ite_self]
theorem deeds_bytes : (deeds s ss sn d y).bytes = if s.hs = true then sized y.bytes s.size.toNat else y.bytes := by
  simp only [deeds, deed6, deed5, deed4, deed3, deed2, deed1, apply_ite NodeS.bytes, ite_self]
theorem deeds_verf : (deeds s ss sn d y).verf = y.verf := by
  simp only [deeds, deed6, deed5, deed4, deed3, deed2, deed1, apply_ite NodeS.verf, ite_self]
theorem deeds_target : (deeds s ss sn d y).target = y.target := by
  simp only [deeds, deed6, deed5, deed4, deed3, deed2, deed1, apply_ite NodeS.target, ite_self]
theorem deeds_ents : (deeds s ss sn d y).ents = y.ents := by
  simp only [deeds, deed6, deed5, deed4, deed3, deed2, deed1, apply_ite NodeS.ents, ite_self]
theorem deeds_parent : (deeds s ss sn d y).parent = y.parent := by
  simp only [deeds, deed6, deed5, deed4, deed3, deed2, deed1, apply_ite NodeS.parent, ite_self]
theorem deeds_next : (deeds s ss sn d y).next = y.next := by
  simp only [deeds, deed6, deed5, deed4, deed3, deed2, deed1, apply_ite NodeS.next, ite_self]
end
theorem deeds_twice (s : SetS) (ss sn : Int) (d d' : AV) (x : NodeS) (x' : NodeS) (h : likeN (deeds s ss sn d x) x') : likeN (deeds s ss sn d x) (deeds s ss sn d' x') := by
  obtain ⟨h1, h2, h3, h4, h5, h6, h7, h8, h9, h10, h11, h12, h13, h14, h15, h16, h17, h18⟩ := h
  refine ⟨?_, ?_, ?_, ?_, ?_, ?_, ?_, ?_, ?_, ?_, ?_, ?_, ?_, ?_, ?_, ?_, ?_, ?_⟩
  · rw [deeds_kind s ss sn d' x', ← h1, deeds_kind]
  · rw [deeds_gen s ss sn d' x', ← h2, deeds_gen]
  · rw [deeds_mode s ss sn d' x', ← h3, deeds_mode]
    by_cases k0 : s.hm = true
    · rw [if_pos k0, if_pos k0]
    · rw [if_neg k0, if_neg k0]
  · rw [deeds_user s ss sn d' x', ← h4, deeds_user]
    by_cases k0 : s.hu = true
    · rw [if_pos k0, if_pos k0]
    · rw [if_neg k0, if_neg k0]
  · rw [deeds_group s ss sn d' x', ← h5, deeds_group]
    by_cases k0 : s.hg = true
    · rw [if_pos k0, if_pos k0]
    · rw [if_neg k0, if_neg k0]
  · rw [deeds_links s ss sn d' x', ← h6, deeds_links]
  · rw [deeds_rs s ss sn d' x', ← h7, deeds_rs]
    by_cases k0 : (s.rh == 2) = true
    · rw [if_pos k0, if_pos k0]
    · rw [if_neg k0, if_neg k0]
      by_cases k1 : (s.rh == 1) = true
      · rw [if_pos k1, if_pos k1]
      · rw [if_neg k1, if_neg k1]
  · rw [deeds_rn s ss sn d' x', ← h8, deeds_rn]
    by_cases k0 : (s.rh == 2) = true
    · rw [if_pos k0, if_pos k0]
    · rw [if_neg k0, if_neg k0]
      by_cases k1 : (s.rh == 1) = true
      · rw [if_pos k1, if_pos k1]
      · rw [if_neg k1, if_neg k1]
  · rw [deeds_ws s ss sn d' x', ← h9, deeds_ws]
    by_cases k0 : (s.wh == 2) = true
    · rw [if_pos k0, if_pos k0]
    · rw [if_neg k0, if_neg k0]
      by_cases k1 : (s.wh == 1) = true
      · rw [if_pos k1, if_pos k1]
      · rw [if_neg k1, if_neg k1]
        by_cases k2 : s.hs = true
        · rw [if_pos k2, if_pos k2]
        · rw [if_neg k2, if_neg k2]
  · rw [deeds_wn s ss sn d' x', ← h10, deeds_wn]
    by_cases k0 : (s.wh == 2) = true
    · rw [if_pos k0, if_pos k0]
    · rw [if_neg k0, if_neg k0]
      by_cases k1 : (s.wh == 1) = true
      · rw [if_pos k1, if_pos k1]
      · rw [if_neg k1, if_neg k1]
        by_cases k2 : s.hs = true
        · rw [if_pos k2, if_pos k2]
        · rw [if_neg k2, if_neg k2]
  · rw [deeds_ts s ss sn d' x', ← h11, deeds_ts]
    by_cases k0 : (s.wh == 2) = true
    · rw [if_pos k0, if_pos k0]
    · rw [if_neg k0, if_neg k0]
      by_cases k1 : (s.wh == 1) = true
      · rw [if_pos k1, if_pos k1]
      · rw [if_neg k1, if_neg k1]
        by_cases k2 : (s.rh == 2) = true
        · rw [if_pos k2, if_pos k2]
        · rw [if_neg k2, if_neg k2]
          by_cases k3 : (s.rh == 1) = true
          · rw [if_pos k3, if_pos k3]
          · rw [if_neg k3, if_neg k3]
            by_cases k4 : s.hs = true
            · rw [if_pos k4, if_pos k4]
            · rw [if_neg k4, if_neg k4]
              by_cases k5 : s.hg = true
              · rw [if_pos k5, if_pos k5]
              · rw [if_neg k5, if_neg k5]
                by_cases k6 : s.hu = true
                · rw [if_pos k6, if_pos k6]
                · rw [if_neg k6, if_neg k6]
                  by_cases k7 : s.hm = true
                  · rw [if_pos k7, if_pos k7]
                  · rw [if_neg k7, if_neg k7]
  · rw [deeds_tn s ss sn d' x', ← h12, deeds_tn]
    by_cases k0 : (s.wh == 2) = true
    · rw [if_pos k0, if_pos k0]
    · rw [if_neg k0, if_neg k0]
      by_cases k1 : (s.wh == 1) = true
      · rw [if_pos k1, if_pos k1]
      · rw [if_neg k1, if_neg k1]
        by_cases k2 : (s.rh == 2) = true
        · rw [if_pos k2, if_pos k2]
        · rw [if_neg k2, if_neg k2]
          by_cases k3 : (s.rh == 1) = true
          · rw [if_pos k3, if_pos k3]
          · rw [if_neg k3, if_neg k3]
            by_cases k4 : s.hs = true
            · rw [if_pos k4, if_pos k4]
            · rw [if_neg k4, if_neg k4]
              by_cases k5 : s.hg = true
              · rw [if_pos k5, if_pos k5]
              · rw [if_neg k5, if_neg k5]
                by_cases k6 : s.hu = true
                · rw [if_pos k6, if_pos k6]
                · rw [if_neg k6, if_neg k6]
                  by_cases k7 : s.hm = true
                  · rw [if_pos k7, if_pos k7]
                  · rw [if_neg k7, if_neg k7]
  · rw [deeds_bytes s ss sn d' x', ← h13, deeds_bytes]
    by_cases k0 : s.hs = true
    · rw [if_pos k0, if_pos k0, sized_self (sized_len _ _)]
    · rw [if_neg k0, if_neg k0]
  · rw [deeds_verf s ss sn d' x', ← h14, deeds_verf]
  · rw [deeds_target s ss sn d' x', ← h15, deeds_target]
  · rw [deeds_ents s ss sn d' x', ← h16, deeds_ents]
  · rw [deeds_parent s ss sn d' x', ← h17, deeds_parent]
  · rw [deeds_next s ss sn d' x', ← h18, deeds_next]
end Go.Proofs.Ytlglhnadalbddaa.Ab
/- Over the engine: what is set keeps a tree. -/
namespace Go.Proofs.Ytlglhnadalbddaa.Ab
open Go Go.RowKit

theorem bne_zero {a : Int} (h : a = 0) : (a != 0) = false := by rw [h]; rfl
/-- What the form lets through. -/
theorem form_facts {s : SetS} {sn : Int} (h : formS s sn = 0) : (s.hm = true → s.mode ≤ 4095) ∧ sn < 1000000000 ∧ ((s.rh == 2) = true → s.rn < 1000000000) ∧ ((s.wh == 2) = true → s.wn < 1000000000) := by
  unfold formS at h
  cases hf : form2 s sn with
  | true => rw [hf] at h; simp at h
  | false =>
    unfold form2 form1 form0 badT nanoOk at hf
    simp only [Bool.or_eq_false_iff, Bool.and_eq_false_iff, Bool.not_eq_false', decide_eq_false_iff_not, decide_eq_true_eq] at hf
    obtain ⟨⟨⟨h1, h2⟩, _, h3⟩, _, h4⟩ := hf
    refine ⟨fun hm => ?_, h2, fun hr => ?_, fun hw => ?_⟩
    · rcases h1 with h1 | h1
      · rw [hm] at h1; cases h1
      · omega
    · rcases h3 with h3 | h3
      · rw [hr] at h3; cases h3
      · exact h3
    · rcases h4 with h4 | h4
      · rw [hw] at h4; cases h4
      · exact h4
theorem deeds_turned {s : SetS} {ss sn : Int} {d : AV} {x : NodeS} (hf : formS s sn = 0) (hm : x.mode ≤ 4095) (hr : x.rn < 1000000000) (hw : x.wn < 1000000000) (ht : x.tn < 1000000000) : Turned x (deeds s ss sn d x) := by
  obtain ⟨f1, f2, f3, f4⟩ := form_facts hf
  refine ⟨deeds_kind .., deeds_gen .., deeds_links .., deeds_ents .., deeds_parent .., deeds_next .., ?_, ?_, ?_, ?_⟩
  · rw [deeds_mode]
    refine decide_eq_false ?_
    split
    · rename_i h; have := f1 h; omega
    · omega
  · rw [deeds_rn]
    refine decide_eq_true ?_
    split
    · rename_i h; exact f3 h
    · split
      · exact f2
      · exact hr
  · rw [deeds_wn]
    refine decide_eq_true ?_
    split
    · rename_i h; exact f4 h
    · split
      · exact f2
      · split
        · exact f2
        · exact hw
  · rw [deeds_tn]
    refine decide_eq_true ?_
    repeat' split
    all_goals first | exact f2 | exact ht
end Go.Proofs.Ytlglhnadalbddaa.Ab
