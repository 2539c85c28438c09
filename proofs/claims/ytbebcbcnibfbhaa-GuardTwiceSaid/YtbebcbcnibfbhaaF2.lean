import Derived.Test.YtbebcbcnibfbhaaF1
import Derived.Test.YtbebcbcnibfbhaaEY
/- Over the engine, second text: trees; access. -/
namespace Go.Proofs.Ytbebcbcnibfbhaa.Ab
open Go Go.RowKit

/-- Whole numbers in a row. -/
def numsA (k : IntKind) (l : List Int) : List AV := l.map (AV.int k)
/-- A row of numbers that nobody writes. -/
def rowOk (k : IntKind) (v : AV) (l : List Int) : Prop := (v = .sl0 ∧ l = []) ∨ ∃ t, v = .sl (numsA k l) l.length t
/-- An entry of a directory. -/
structure EntryS where
  name : List UInt8
  node : Int
  cookie : Int
def entryA (e : EntryS) : List AV := [.str e.name, .int .i64 e.node, .int .u64 e.cookie]
def entriesA (l : List EntryS) : List AV := (l.map entryA).flatten
def entsOk (v : AV) (l : List EntryS) : Prop := (v = .sl0 ∧ l = []) ∨ ∃ t, v = .sl (entriesA l) l.length t
/-- A node of a tree, as it stands in cells. -/
structure NodeS where
  kind : Int
  gen : Int
  mode : Int
  user : Int
  group : Int
  links : Int
  rs : Int
  rn : Int
  ws : Int
  wn : Int
  ts : Int
  tn : Int
  data : AV
  bytes : List Int
  verf : Nat → Int
  target : List UInt8
  list : AV
  ents : List EntryS
  parent : Int
  next : Int
def nodeA (x : NodeS) : List AV := [.int .u32 x.kind, .int .u32 x.gen, .int .u32 x.mode, .int .u32 x.user, .int .u32 x.group, .int .i64 x.links, .int .u32 x.rs, .int .u32 x.rn, .int .u32 x.ws, .int .u32 x.wn, .int .u32 x.ts, .int .u32 x.tn, x.data,
  .int .u8 (x.verf 0), .int .u8 (x.verf 1), .int .u8 (x.verf 2), .int .u8 (x.verf 3), .int .u8 (x.verf 4), .int .u8 (x.verf 5), .int .u8 (x.verf 6), .int .u8 (x.verf 7), .str x.target, x.list, .int .i64 x.parent, .int .u64 x.next]
/-! Rows of so many cells each. -/
theorem rows_len {α : Type} {f : α → List AV} {z : Nat} (hf : ∀ x, (f x).length = z) : ∀ l : List α, (l.map f).flatten.length = l.length * z
  | [] => by simp
  | x :: l => by
    rw [List.map_cons, List.flatten_cons, List.length_append, hf, rows_len hf l, List.length_cons, Nat.add_mul]
    omega
theorem rows_drop {α : Type} {f : α → List AV} {z : Nat} (hf : ∀ x, (f x).length = z) : ∀ (l : List α) (i : Nat) (x : α), l[i]? = some x → ∃ r, (l.map f).flatten.drop (i * z) = f x ++ r
  | [], i, x, h => by simp at h
  | y :: l, 0, x, h => by
    simp at h
    subst h
    exact ⟨(l.map f).flatten, by simp⟩
  | y :: l, i + 1, x, h => by
    simp at h
    obtain ⟨r, hr⟩ := rows_drop hf l i x h
    refine ⟨r, ?_⟩
    rw [List.map_cons, List.flatten_cons, show (i + 1) * z = (f y).length + i * z by rw [hf, Nat.add_mul]; omega, ← List.drop_drop, List.drop_left]
    exact hr
theorem rows_row {α : Type} {f : α → List AV} {z : Nat} (hf : ∀ x, (f x).length = z) {l : List α} {i : Nat} {x : α} (h : l[i]? = some x) : ((l.map f).flatten.drop (i * z)).take z = f x := by
  obtain ⟨r, hr⟩ := rows_drop hf l i x h
  rw [hr]
  exact List.take_left' (hf x)
theorem rows_cell {α : Type} {f : α → List AV} {z : Nat} (hf : ∀ x, (f x).length = z) {l : List α} {i : Nat} {x : α} (h : l[i]? = some x) (k : Nat) (hk : k < z) : (l.map f).flatten[i * z + k]? = (f x)[k]? := by
  obtain ⟨r, hr⟩ := rows_drop hf l i x h
  rw [← List.getElem?_drop, hr, List.getElem?_append_left (by rw [hf]; exact hk)]
def nodesA (l : List NodeS) : List AV := (l.map nodeA).flatten
theorem nodeA_len (x : NodeS) : (nodeA x).length = 25 := rfl
theorem entryA_len (x : EntryS) : (entryA x).length = 3 := rfl
theorem nodesA_len (l : List NodeS) : (nodesA l).length = l.length * 25 := rows_len nodeA_len l
theorem nodesA_node {l : List NodeS} {i : Nat} {x : NodeS} (h : l[i]? = some x) : ((nodesA l).drop (i * 25)).take 25 = nodeA x := rows_row nodeA_len h
theorem nodesA_cell {l : List NodeS} {i : Nat} {x : NodeS} (h : l[i]? = some x) (k : Nat) (hk : k < 25) : (nodesA l)[i * 25 + k]? = (nodeA x)[k]? := rows_cell nodeA_len h k hk
theorem entriesA_len (l : List EntryS) : (entriesA l).length = l.length * 3 := rows_len entryA_len l
theorem entriesA_cell {l : List EntryS} {i : Nat} {x : EntryS} (h : l[i]? = some x) (k : Nat) (hk : k < 3) : (entriesA l)[i * 3 + k]? = (entryA x)[k]? := rows_cell entryA_len h k hk
theorem entriesA_entry {l : List EntryS} {i : Nat} {x : EntryS} (h : l[i]? = some x) : ((entriesA l).drop (i * 3)).take 3 = entryA x := rows_row entryA_len h

def NodeS.ok (x : NodeS) : Prop := rowOk .u8 x.data x.bytes ∧ entsOk x.list x.ents
/-- What is known of a node that came as an argument. -/
structure NodeS.rng (x : NodeS) : Prop where
  kind : 0 ≤ x.kind ∧ x.kind < 4294967296
  gen : 0 ≤ x.gen ∧ x.gen < 4294967296
  mode : 0 ≤ x.mode ∧ x.mode < 4294967296
  user : 0 ≤ x.user ∧ x.user < 4294967296
  group : 0 ≤ x.group ∧ x.group < 4294967296
  links : -9223372036854775808 ≤ x.links ∧ x.links < 9223372036854775808
  rs : 0 ≤ x.rs ∧ x.rs < 4294967296
  rn : 0 ≤ x.rn ∧ x.rn < 4294967296
  ws : 0 ≤ x.ws ∧ x.ws < 4294967296
  wn : 0 ≤ x.wn ∧ x.wn < 4294967296
  ts : 0 ≤ x.ts ∧ x.ts < 4294967296
  tn : 0 ≤ x.tn ∧ x.tn < 4294967296
  bytes : ∀ b ∈ x.bytes, 0 ≤ b ∧ b < 256
  bytesL : x.bytes.length ≤ 140737488351232
  verf : ∀ i, i < 8 → 0 ≤ x.verf i ∧ x.verf i < 256
  target : x.target.length ≤ 140737488351232
  ents : ∀ e ∈ x.ents, e.name.length ≤ 140737488351232 ∧ (-9223372036854775808 ≤ e.node ∧ e.node < 9223372036854775808) ∧ 0 ≤ e.cookie ∧ e.cookie < 18446744073709551616
  entsL : x.ents.length * 32 ≤ 140737488351232
  parent : -9223372036854775808 ≤ x.parent ∧ x.parent < 9223372036854775808
  next : 0 ≤ x.next ∧ x.next < 18446744073709551616
/-- A row of nodes that nobody writes. -/
def nodesOk (v : AV) (l : List NodeS) : Prop := (v = .sl0 ∧ l = []) ∨ ∃ t, v = .sl (nodesA l) l.length t
/-- A tree. -/
structure TreeS where
  v : AV
  ns : List NodeS
  gen : Int
structure TreeS.ok (t : TreeS) : Prop where
  v : nodesOk t.v t.ns
  ns : ∀ x ∈ t.ns, x.ok ∧ x.rng
  len : t.ns.length ≤ 140737488351232
  gen : 0 ≤ t.gen ∧ t.gen < 4294967296
def treeA (t : TreeS) : AV := .agg [t.v, .int .u32 t.gen]
def kindS (ns : List NodeS) (n : Int) : Int := match ns[n.toNat]? with
  | some x => x.kind
  | none => 0
def thereS (ns : List NodeS) (n : Int) : Bool := decide (0 < n) && (decide (n < ns.length) && (kindS ns n != 0))
set_option maxRecDepth 100000
theorem there_c (m : Nat) (from_ : FuncId) (h : H) (v : AV) (ns : List NodeS) (hv : nodesOk v ns) (gen n : Int) : evCall TE (m + 1) from_ (.fn 62 [] []) [.agg [v, .int .u32 gen], .int .i64 n] h = some (.ret (.bool (thereS ns n)), h) := by
  rcases hv with ⟨rfl, rfl⟩ | ⟨t, rfl⟩
  · refine call_clean (fn := Try.f62) rfl Try.func62 rfl rfl rfl rfl rfl (Nat.le_of_ble_eq_true rfl) ?_
    conv => whnf
    unfold thereS
    cases h1 : decide (0 < n) with
    | false =>
      conv => whnf
      rfl
    | true =>
      have h1 := of_decide_eq_true h1
      have e : decide (n < ((0 : Nat) : Int)) = false := decide_eq_false (by omega)
      conv => whnf
      rw [e]
      conv => whnf
      show AV.bool false = AV.bool (true && (decide (n < ((0 : Nat) : Int)) && _))
      rw [e]
      rfl
  refine call_clean (fn := Try.f62) rfl Try.func62 rfl rfl rfl rfl rfl (Nat.le_of_ble_eq_true rfl) ?_
  conv => whnf
  unfold thereS
  cases h1 : decide (0 < n) with
  | false =>
    conv => whnf
    rfl
  | true =>
    conv => whnf
    cases h2 : decide (n < (ns.length : Int)) with
    | false =>
      conv => whnf
      rfl
    | true =>
      have h1 := of_decide_eq_true h1
      have h2 := of_decide_eq_true h2
      obtain ⟨x, hx⟩ : ∃ x, ns[n.toNat]? = some x := ⟨_, List.getElem?_eq_getElem (by omega)⟩
      conv => whnf
      refine runK_ret (ev_indexSl (sz := 25) rfl rfl rfl rfl (by omega) h2) ?_
      conv => whnf
      refine runK_ret (ev_loadV (z := 1) rfl rfl rfl ((nodesA_cell hx 0 (by decide)).trans rfl)) ?_
      conv => whnf
      unfold kindS
      rw [hx]
      rfl
def sizeS (x : NodeS) : Int := if x.kind = 1 then x.bytes.length else if x.kind = 5 then x.target.length else IntKind.wrap .i64 (32 * x.ents.length)
def attrsS (x : NodeS) (n : Int) : List AV := [.int .u32 x.kind, .int .u32 x.mode, .int .u32 (IntKind.wrap .u32 x.links), .int .u32 x.user, .int .u32 x.group, .int .u64 (IntKind.wrap .u64 (sizeS x)), .int .u64 (IntKind.wrap .u64 (sizeS x)), .int .u64 (IntKind.wrap .u64 n),
  .int .u32 x.rs, .int .u32 x.rn, .int .u32 x.ws, .int .u32 x.wn, .int .u32 x.ts, .int .u32 x.tn]
def attrs0 : List AV := [.int .u32 0, .int .u32 0, .int .u32 0, .int .u32 0, .int .u32 0, .int .u64 0, .int .u64 0, .int .u64 0, .int .u32 0, .int .u32 0, .int .u32 0, .int .u32 0, .int .u32 0, .int .u32 0]
theorem attrs_none (m : Nat) (from_ : FuncId) (h : H) (v : AV) (ns : List NodeS) (hv : nodesOk v ns) (gen n : Int) (hn : thereS ns n = false) : evCall TE (m + 2) from_ (.fn 26 [] []) [.agg [v, .int .u32 gen], .int .i64 n] h = some (.ret (.tup [.agg attrs0, .bool false]), h) := by
  have hth := fun (f : FuncId) (h : H) => there_c m f h v ns hv gen n
  rw [hn] at hth
  rcases hv with ⟨rfl, rfl⟩ | ⟨t, rfl⟩
  all_goals
    refine call_clean (fn := Try.f26) rfl Try.func26 rfl rfl rfl rfl rfl (Nat.le_of_ble_eq_true rfl) ?_
    conv => whnf
    refine ⟨_, _, hth _ _, ?_⟩
    conv => whnf
    rfl
set_option maxHeartbeats 4000000 in
theorem attrs_some (m : Nat) (from_ : FuncId) (h : H) (v : AV) (ns : List NodeS) (hv : nodesOk v ns) (gen n : Int) (x : NodeS) (hn : thereS ns n = true) (hx : ns[n.toNat]? = some x) (hok : x.ok) : evCall TE (m + 2) from_ (.fn 26 [] []) [.agg [v, .int .u32 gen], .int .i64 n] h = some (.ret (.tup [.agg (attrsS x n), .bool true]), h) := by
  have hth := fun (f : FuncId) (h : H) => there_c m f h v ns hv gen n
  rw [hn] at hth
  rcases hv with ⟨rfl, rfl⟩ | ⟨t, rfl⟩
  · simp at hx
  refine call_clean (fn := Try.f26) rfl Try.func26 rfl rfl rfl rfl rfl (Nat.le_of_ble_eq_true rfl) ?_
  conv => whnf
  refine ⟨_, _, hth _ _, ?_⟩
  unfold thereS at hn
  rw [Bool.and_eq_true, Bool.and_eq_true, decide_eq_true_eq, decide_eq_true_eq] at hn
  have hl : n.toNat * 25 + 25 ≤ (nodesA ns).length := by rw [nodesA_len]; omega
  conv => whnf
  refine runK_ret (ev_indexSl (sz := 25) rfl rfl rfl rfl (by omega) hn.2.1) ?_
  conv => whnf
  refine runK_ret (ev_loadVA (z := 25) rfl rfl rfl hl (nodesA_node hx)) ?_
  obtain ⟨kd, ge, mo, us, gr, li, rs, rn, ws, wn, ts, tn, da, by_, vf, ta, ls, es, pa, nx⟩ := x
  simp only [NodeS.ok, rowOk, entsOk] at hok
  obtain ⟨hd, hl⟩ := hok
  unfold attrsS sizeS
  dsimp only
  by_cases k1 : kd = 1
  · subst k1
    rcases hd with ⟨rfl, rfl⟩ | ⟨dt, rfl⟩ <;> rcases hl with ⟨rfl, rfl⟩ | ⟨lt, rfl⟩ <;> conv => whnf
    all_goals rfl
  · by_cases k5 : kd = 5
    · subst k5
      rcases hd with ⟨rfl, rfl⟩ | ⟨dt, rfl⟩ <;> rcases hl with ⟨rfl, rfl⟩ | ⟨lt, rfl⟩ <;> conv => whnf
      all_goals rfl
    · rw [if_neg k1, if_neg k5]
      have b1 : (kd == 1) = false := by simpa using k1
      have b5 : (kd == 5) = false := by simpa using k5
      rcases hd with ⟨rfl, rfl⟩ | ⟨dt, rfl⟩ <;> rcases hl with ⟨rfl, rfl⟩ | ⟨lt, rfl⟩ <;> conv => whnf
      all_goals refine runK_ret (v := .tup [.int .i64 0, .bool false]) (w := .none) (by simp [findA, sameCell, lookA, lookT, AV.ofValue, AV.ofCell, b1, b5]) ?_
      all_goals conv => whnf
      all_goals rfl
end Go.Proofs.Ytbebcbcnibfbhaa.Ab
