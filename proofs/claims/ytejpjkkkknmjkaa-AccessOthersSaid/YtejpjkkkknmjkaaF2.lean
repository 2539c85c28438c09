import Derived.Test.YtejpjkkkknmjkaaF1
/- Over the engine, second text: trees; access. -/
namespace Go.Proofs.Ytejpjkkkknmjkaa.Ab
open Go Go.RowKit

/-- A node of a tree, as it stands in cells. -/
structure NodeS where
  kind : Int
  gen : Int
  mode : Int
  user : Int
  group : Int
  links : Int
  rs : Int
  rn : Int
  ws : Int
  wn : Int
  ts : Int
  tn : Int
  data : AV
  dn : Nat
  verf : Nat → Int
  target : List UInt8
  list : AV
  ln : Nat
  parent : Int
  next : Int
def nodeA (x : NodeS) : List AV := [.int .u32 x.kind, .int .u32 x.gen, .int .u32 x.mode, .int .u32 x.user, .int .u32 x.group, .int .i64 x.links, .int .u32 x.rs, .int .u32 x.rn, .int .u32 x.ws, .int .u32 x.wn, .int .u32 x.ts, .int .u32 x.tn, x.data,
  .int .u8 (x.verf 0), .int .u8 (x.verf 1), .int .u8 (x.verf 2), .int .u8 (x.verf 3), .int .u8 (x.verf 4), .int .u8 (x.verf 5), .int .u8 (x.verf 6), .int .u8 (x.verf 7), .str x.target, x.list, .int .i64 x.parent, .int .u64 x.next]
def nodesA : List NodeS → List AV
  | [] => []
  | x :: l => nodeA x ++ nodesA l
theorem nodesA_len : ∀ l, (nodesA l).length = l.length * 25
  | [] => rfl
  | x :: l => by simp only [nodesA, List.length_append, nodesA_len l, List.length_cons]; simp [nodeA]; omega
theorem nodesA_drop : ∀ (l : List NodeS) (i : Nat) (x : NodeS), l[i]? = some x → ∃ r, (nodesA l).drop (i * 25) = nodeA x ++ r
  | [], i, x, h => by simp at h
  | y :: l, 0, x, h => by
    simp at h
    subst h
    exact ⟨nodesA l, by simp [nodesA]⟩
  | y :: l, i + 1, x, h => by
    simp at h
    obtain ⟨r, hr⟩ := nodesA_drop l i x h
    refine ⟨r, ?_⟩
    rw [show (i + 1) * 25 = (nodeA y).length + i * 25 by simp [nodeA]; omega, nodesA, ← List.drop_drop, List.drop_left]
    exact hr
theorem nodesA_node {l : List NodeS} {i : Nat} {x : NodeS} (h : l[i]? = some x) : ((nodesA l).drop (i * 25)).take 25 = nodeA x := by
  obtain ⟨r, hr⟩ := nodesA_drop l i x h
  rw [hr]
  exact List.take_left' rfl
theorem nodesA_cell {l : List NodeS} {i : Nat} {x : NodeS} (h : l[i]? = some x) (k : Nat) (hk : k < 25) : (nodesA l)[i * 25 + k]? = (nodeA x)[k]? := by
  obtain ⟨r, hr⟩ := nodesA_drop l i x h
  rw [← List.getElem?_drop, hr, List.getElem?_append_left (by simpa [nodeA] using hk)]

def kindS (ns : List NodeS) (n : Int) : Int := match ns[n.toNat]? with
  | some x => x.kind
  | none => 0
def thereS (ns : List NodeS) (n : Int) : Bool := decide (0 < n) && (decide (n < ns.length) && (kindS ns n != 0))
set_option maxRecDepth 100000
theorem there_c (m : Nat) (from_ : FuncId) (h : H) (ns : List NodeS) (t : Bool) (gen n : Int) : evCall TE (m + 1) from_ (.fn 17 [] []) [.agg [.sl (nodesA ns) ns.length t, .int .u32 gen], .int .i64 n] h = some (.ret (.bool (thereS ns n)), h) := by
  refine call_clean (fn := Try.f17) rfl Try.func17 rfl rfl rfl rfl rfl (Nat.le_of_ble_eq_true rfl) ?_
  conv => whnf
  unfold thereS
  cases h1 : decide (0 < n) with
  | false =>
    conv => whnf
    rfl
  | true =>
    conv => whnf
    cases h2 : decide (n < (ns.length : Int)) with
    | false =>
      conv => whnf
      rfl
    | true =>
      have h1 := of_decide_eq_true h1
      have h2 := of_decide_eq_true h2
      obtain ⟨x, hx⟩ : ∃ x, ns[n.toNat]? = some x := ⟨_, List.getElem?_eq_getElem (by omega)⟩
      conv => whnf
      refine runK_ret (ev_indexSl (sz := 25) rfl rfl rfl rfl (by omega) h2) ?_
      conv => whnf
      refine runK_ret (ev_loadV (z := 1) rfl rfl rfl ((nodesA_cell hx 0 (by decide)).trans rfl)) ?_
      conv => whnf
      unfold kindS
      rw [hx]
      rfl
def NodeS.ok (x : NodeS) : Prop := slOk x.data x.dn ∧ slOk x.list x.ln
def sizeS (x : NodeS) : Int := if x.kind = 1 then x.dn else if x.kind = 5 then x.target.length else IntKind.wrap .i64 (32 * x.ln)
def attrsS (x : NodeS) (n : Int) : List AV := [.int .u32 x.kind, .int .u32 x.mode, .int .u32 (IntKind.wrap .u32 x.links), .int .u32 x.user, .int .u32 x.group, .int .u64 (IntKind.wrap .u64 (sizeS x)), .int .u64 (IntKind.wrap .u64 (sizeS x)), .int .u64 (IntKind.wrap .u64 n),
  .int .u32 x.rs, .int .u32 x.rn, .int .u32 x.ws, .int .u32 x.wn, .int .u32 x.ts, .int .u32 x.tn]
def attrs0 : List AV := [.int .u32 0, .int .u32 0, .int .u32 0, .int .u32 0, .int .u32 0, .int .u64 0, .int .u64 0, .int .u64 0, .int .u32 0, .int .u32 0, .int .u32 0, .int .u32 0, .int .u32 0, .int .u32 0]
theorem attrs_none (m : Nat) (from_ : FuncId) (h : H) (ns : List NodeS) (t : Bool) (gen n : Int) (hn : thereS ns n = false) : evCall TE (m + 2) from_ (.fn 12 [] []) [.agg [.sl (nodesA ns) ns.length t, .int .u32 gen], .int .i64 n] h = some (.ret (.tup [.agg attrs0, .bool false]), h) := by
  refine call_clean (fn := Try.f12) rfl Try.func12 rfl rfl rfl rfl rfl (Nat.le_of_ble_eq_true rfl) ?_
  conv => whnf
  refine ⟨_, _, there_c m _ _ ns t gen n, ?_⟩
  rw [hn]
  conv => whnf
  rfl
set_option maxHeartbeats 4000000 in
theorem attrs_some (m : Nat) (from_ : FuncId) (h : H) (ns : List NodeS) (t : Bool) (gen n : Int) (x : NodeS) (hn : thereS ns n = true) (hx : ns[n.toNat]? = some x) (hok : x.ok) : evCall TE (m + 2) from_ (.fn 12 [] []) [.agg [.sl (nodesA ns) ns.length t, .int .u32 gen], .int .i64 n] h = some (.ret (.tup [.agg (attrsS x n), .bool true]), h) := by
  refine call_clean (fn := Try.f12) rfl Try.func12 rfl rfl rfl rfl rfl (Nat.le_of_ble_eq_true rfl) ?_
  conv => whnf
  refine ⟨_, _, there_c m _ _ ns t gen n, ?_⟩
  rw [hn]
  unfold thereS at hn
  rw [Bool.and_eq_true, Bool.and_eq_true, decide_eq_true_eq, decide_eq_true_eq] at hn
  have hl : n.toNat * 25 + 25 ≤ (nodesA ns).length := by rw [nodesA_len]; omega
  conv => whnf
  refine runK_ret (ev_indexSl (sz := 25) rfl rfl rfl rfl (by omega) hn.2.1) ?_
  conv => whnf
  refine runK_ret (ev_loadVA (z := 25) rfl rfl rfl hl (nodesA_node hx)) ?_
  obtain ⟨kd, ge, mo, us, gr, li, rs, rn, ws, wn, ts, tn, da, dn, vf, ta, ls, ln, pa, nx⟩ := x
  simp only [NodeS.ok, slOk] at hok
  obtain ⟨hd, hl⟩ := hok
  unfold attrsS sizeS
  dsimp only
  by_cases k1 : kd = 1
  · subst k1
    rcases hd with ⟨rfl, rfl⟩ | ⟨dc, dt, rfl⟩ <;> rcases hl with ⟨rfl, rfl⟩ | ⟨lc, lt, rfl⟩ <;> conv => whnf
    all_goals rfl
  · by_cases k5 : kd = 5
    · subst k5
      rcases hd with ⟨rfl, rfl⟩ | ⟨dc, dt, rfl⟩ <;> rcases hl with ⟨rfl, rfl⟩ | ⟨lc, lt, rfl⟩ <;> conv => whnf
      all_goals rfl
    · rw [if_neg k1, if_neg k5]
      have b1 : (kd == 1) = false := by simpa using k1
      have b5 : (kd == 5) = false := by simpa using k5
      rcases hd with ⟨rfl, rfl⟩ | ⟨dc, dt, rfl⟩ <;> rcases hl with ⟨rfl, rfl⟩ | ⟨lc, lt, rfl⟩ <;> conv => whnf
      all_goals refine runK_ret (v := .tup [.int .i64 0, .bool false]) (w := .none) (by simp [findA, sameCell, lookA, lookT, AV.ofValue, AV.ofCell, b1, b5]) ?_
      all_goals conv => whnf
      all_goals rfl
end Go.Proofs.Ytejpjkkkknmjkaa.Ab
