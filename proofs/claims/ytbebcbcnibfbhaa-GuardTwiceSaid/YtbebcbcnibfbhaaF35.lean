import Derived.Test.YtbebcbcnibfbhaaF33
/- Over the engine: a tree that is cloned. -/
namespace Go.Proofs.Ytbebcbcnibfbhaa.Ab
open Go Go.RowKit

set_option maxRecDepth 100000
def node0 : NodeS := ⟨0, 0, 0, 0, 0, 0, 0, 0, 0, 0, 0, 0, .sl0, [], fun _ => 0, [], .sl0, [], 0, 0⟩
theorem rep_nodes (n : Nat) : repCells n (nodeA node0) = nodesA (List.replicate n node0) := by
  unfold nodesA
  rw [List.map_replicate]
  rfl
theorem nodes_rep_len (n : Nat) : (nodesA (List.replicate n node0)).length = n * 25 := by rw [nodesA_len, List.length_replicate]
/-- What is known of a node, wherever it comes from. -/
def NodeS.fit (x : NodeS) : Prop := x.ok ∧ x.bytes.length ≤ 140737488351232 ∧ x.ents.length * 32 ≤ 140737488351232
/-- A node in memory of its own. -/
def cloneN (x : NodeS) : NodeS := { x with data := rowC (numsA .u8 x.bytes) x.bytes.length x.data, list := rowC (entriesA x.ents) x.ents.length x.list }
theorem topL_app : ∀ (a b : List AV), topL (a ++ b) = max (topL a) (topL b)
  | [], b => by simp [topL]
  | x :: a, b => by simp only [List.cons_append, topL, topL_app a b, Nat.max_assoc]
theorem nodeA_top {x : NodeS} (hx : x.ok) : topL (nodeA x) = 0 := by
  obtain ⟨kd, ge, mo, us, ng, li, xrs, xrn, xws, xwn, ts, tn, da, by_, vf, ta, ls, es, pa, nx⟩ := x
  simp only [NodeS.ok, rowOk, entsOk] at hx
  obtain ⟨hd, hl⟩ := hx
  rcases hd with ⟨rfl, rfl⟩ | ⟨dt, rfl⟩ <;> rcases hl with ⟨rfl, rfl⟩ | ⟨lt, rfl⟩ <;> rfl
theorem nodesA_top : ∀ {ns : List NodeS}, (∀ x ∈ ns, x.ok) → topL (nodesA ns) = 0
  | [], _ => rfl
  | x :: ns, h => by
    show topL (nodeA x ++ nodesA ns) = 0
    rw [topL_app, nodeA_top (h x (List.mem_cons_self ..)), nodesA_top fun y hy => h y (List.mem_cons_of_mem _ hy)]
    rfl
/-- So many are cloned. -/
def midN (ns : List NodeS) (i : Nat) : List NodeS := (ns.take i).map cloneN ++ ns.drop i
theorem midN_zero (ns : List NodeS) : midN ns 0 = ns := by simp [midN]
theorem midN_all (ns : List NodeS) {i : Nat} (h : ns.length ≤ i) : midN ns i = ns.map cloneN := by simp [midN, List.take_of_length_le h, List.drop_eq_nil_of_le h]
theorem midN_len (ns : List NodeS) (i : Nat) : (midN ns i).length = ns.length := by simp [midN]; omega
theorem midN_get {ns : List NodeS} {i : Nat} {x : NodeS} (h : ns[i]? = some x) : (midN ns i)[i]? = some x := by
  obtain ⟨h1, rfl⟩ := List.getElem?_eq_some_iff.1 h
  unfold midN
  rw [List.getElem?_append_right (by simp; omega)]
  simp [Nat.min_eq_left (Nat.le_of_lt h1)]
theorem midN_set {ns : List NodeS} {i : Nat} {x : NodeS} (h : ns[i]? = some x) : (midN ns i).set i (cloneN x) = midN ns (i + 1) := by
  obtain ⟨h1, rfl⟩ := List.getElem?_eq_some_iff.1 h
  unfold midN
  rw [List.set_append_right _ _ (by simp; omega)]
  simp only [List.length_map, List.length_take, Nat.min_eq_left (Nat.le_of_lt h1), Nat.sub_self]
  rw [List.drop_eq_getElem_cons h1, List.set_cons_zero, List.take_succ_eq_append_getElem h1, List.map_append, List.append_assoc]
  rfl
def cloneS (B : List AB) (ns : List NodeS) (t : Bool) (gen : Int) (a : Int × List NodeS) : ST :=
  ⟨RG.of 44 [(15, .int .i64 a.1), (14, .int .i64 ns.length), (3, .rsl 21 0 ns.length (some ns.length) 0), (2, .ref 20 0 0), (1, .ref 19 0 0)], ⟨B ++ [.cells [.sl (nodesA ns) ns.length t, .int .u32 gen] ⟨false, 0, false, true⟩, .cells [.sl0, .int .u32 0] ⟨false, 0, false, true⟩, .cells (nodesA a.2) ⟨false, 25, false, true⟩], []⟩⟩
theorem nodes_cell0 {l : List NodeS} {i : Nat} {x : NodeS} (h : l[i]? = some x) (k : Nat) (hk : k < 25) {v : AV} (hv : (nodeA x)[k]? = some v) : (nodesA l)[0 + i * 25 + k]? = some v := by
  rw [Nat.zero_add]
  exact (nodesA_cell h k hk).trans hv
theorem splice_nodes0 {ns : List NodeS} {i : Nat} {x x' : NodeS} {k : Nat} {vs : List AV} (hx : ns[i]? = some x) (hk : k + vs.length ≤ 25) (he : splice (nodeA x) k vs = nodeA x') : splice (nodesA ns) (0 + i * 25 + k) vs = nodesA (ns.set i x') := by
  rw [Nat.zero_add]
  exact splice_nodes hx hk he
set_option maxHeartbeats 4000000 in
theorem clone_K (m : Nat) (f : FuncId) (K : AV → H → Prop) (ns : List NodeS) (t : Bool) (gen : Int) (hok : ∀ x ∈ ns, x.fit) (hlen : ns.length ≤ 300) (b0 b1 b2 b3 b4 b5 b6 b7 b8 b9 b10 b11 b12 b13 b14 b15 b16 b17 b18 : AB) (hraw : TE.raw f 39 = true)
    (hk : K (.agg [.rsl 21 0 ns.length (some ns.length) 0, .int .u32 gen]) ⟨[b0, b1, b2, b3, b4, b5, b6, b7, b8, b9, b10, b11, b12, b13, b14, b15, b16, b17, b18, .cells [.rsl 21 0 ns.length (some ns.length) 0, .int .u32 gen] ⟨false, 0, false, true⟩, .cells [.rsl 21 0 ns.length (some ns.length) 0, .int .u32 gen] ⟨false, 0, false, true⟩, .cells (nodesA (ns.map cloneN)) ⟨false, 25, false, true⟩], [(20, 22), (19, 22)]⟩) :
    ∃ v h', (evAll TE (m + 2)).1 f (.fn 39 [] []) [.agg [.sl (nodesA ns) ns.length t, .int .u32 gen]] ⟨[b0, b1, b2, b3, b4, b5, b6, b7, b8, b9, b10, b11, b12, b13, b14, b15, b16, b17, b18], []⟩ = some (.ret v, h') ∧ K v h' := by
  have kb1 : ∀ (f : FuncId) (h : H) (a : Int) (l : List Int) (t : Bool), (a :: l).length ≤ 140737488351232 → (evAll TE (m + 1)).1 f (.fn 79 [] []) [.sl (numsA .u8 (a :: l)) (a :: l).length t] h = some (.ret (.sl (numsA .u8 (a :: l)) (a :: l).length false), h) := fun f h a l t hl => bytesClone_c m f h a l t (by omega)
  have kb2 : ∀ (f : FuncId) (h : H) (t : Bool), (evAll TE (m + 1)).1 f (.fn 79 [] []) [.sl [] 0 t] h = some (.ret (.sl [] 0 true), h) := fun f h t => bytesClone_0 m f h t
  have kb3 : ∀ (f : FuncId) (h : H), (evAll TE (m + 1)).1 f (.fn 79 [] []) [.sl0] h = some (.ret .sl0, h) := fun f h => bytesClone_nil m f h
  have kb4 : ∀ (f : FuncId) (h : H) (l : List Int) (t : Bool), (evAll TE (m + 1)).1 f (.fn 60 [] []) [.sl (numsA .u8 l) l.length t] h = some (.ret (.sl (numsA .u8 l) l.length true), h) := fun f h l t => bytesClip_c m f h l t
  have kb5 : ∀ (f : FuncId) (h : H) (t : Bool), (evAll TE (m + 1)).1 f (.fn 60 [] []) [.sl [] 0 t] h = some (.ret (.sl [] 0 true), h) := fun f h t => bytesClip_0 m f h t
  have kb6 : ∀ (f : FuncId) (h : H), (evAll TE (m + 1)).1 f (.fn 60 [] []) [.sl0] h = some (.ret .sl0, h) := fun f h => bytesClip_nil m f h
  have ke1 : ∀ (f : FuncId) (h : H) (a : EntryS) (l : List EntryS) (t : Bool), (a :: l).length * 32 ≤ 140737488351232 → (evAll TE (m + 1)).1 f (.fn 81 [] []) [.sl (entriesA (a :: l)) (a :: l).length t] h = some (.ret (.sl (entriesA (a :: l)) (a :: l).length false), h) := fun f h a l t hl => entsClone_c m f h a l t (by omega)
  have ke2 : ∀ (f : FuncId) (h : H) (t : Bool), (evAll TE (m + 1)).1 f (.fn 81 [] []) [.sl [] 0 t] h = some (.ret (.sl [] 0 true), h) := fun f h t => entsClone_0 m f h t
  have ke3 : ∀ (f : FuncId) (h : H), (evAll TE (m + 1)).1 f (.fn 81 [] []) [.sl0] h = some (.ret .sl0, h) := fun f h => entsClone_nil m f h
  have ke4 : ∀ (f : FuncId) (h : H) (l : List EntryS) (t : Bool), (evAll TE (m + 1)).1 f (.fn 80 [] []) [.sl (entriesA l) l.length t] h = some (.ret (.sl (entriesA l) l.length true), h) := fun f h l t => entsClip_c m f h l t
  have ke5 : ∀ (f : FuncId) (h : H) (t : Bool), (evAll TE (m + 1)).1 f (.fn 80 [] []) [.sl [] 0 t] h = some (.ret (.sl [] 0 true), h) := fun f h t => entsClip_0 m f h t
  have ke6 : ∀ (f : FuncId) (h : H), (evAll TE (m + 1)).1 f (.fn 80 [] []) [.sl0] h = some (.ret .sl0, h) := fun f h => entsClip_nil m f h
  refine call_raw (fn := Try.f39) rfl Try.func39 rfl hraw (Nat.le_of_ble_eq_true rfl) ?_
  conv => whnf
  (refine runK_ret (ev_makeN (sz := 25) (by_ := 144) rfl rfl rfl rfl rfl rfl (by omega) (by omega) rfl (by decide) rfl (rep_nodes _)) ?_)
  conv => whnf
  (refine runK_copy_all (sz := 25) rfl rfl rfl rfl rfl rfl rfl (nodesA_len ns) (nodes_rep_len _) ?_)
  conv => whnf
  (refine listK_of (splice_all _ _ (by rw [nodes_rep_len, nodesA_len])) ?_)
  conv => whnf
  (refine listK_of (if_pos (by rw [nodesA_top fun x hx => (hok x hx).1]; exact Nat.zero_le _)) ?_)
  conv => whnf
  refine ⟨ns.length + 1, by show ns.length + 1 ≤ 4611686018427387904; omega, ?_⟩
  refine rounds_ind (cloneS [b0, b1, b2, b3, b4, b5, b6, b7, b8, b9, b10, b11, b12, b13, b14, b15, b16, b17, b18] ns t gen) (fun a => 0 ≤ a.1 ∧ a.1 ≤ ns.length ∧ a.2 = midN ns a.1.toNat) (fun a => (ns.length - a.1).toNat) ?_ _ (0, ns) _ ⟨by omega, by omega, (midN_zero ns).symm⟩ (by simp only; omega) (by kernel_rfl)
  intro a m' hI ih
  obtain ⟨i, l⟩ := a
  dsimp only at hI ih ⊢
  obtain ⟨hI0, hI1, hI2⟩ := hI
  conv => whnf
  cases h1 : decide (i < (ns.length : Int)) with
  | false =>
    have h1 := of_decide_eq_false h1
    rw [midN_all ns (by omega)] at hI2
    subst hI2
    conv => whnf
    exact hk
  | true =>
    have h1 := of_decide_eq_true h1
    have h3 : i.toNat < ns.length := by omega
    obtain ⟨x, hx⟩ : ∃ x, ns[i.toNat]? = some x := ⟨_, List.getElem?_eq_getElem h3⟩
    have hxl : l[i.toNat]? = some x := by rw [hI2]; exact midN_get hx
    have hll : l.length = ns.length := by rw [hI2, midN_len]
    have hw : IntKind.wrap .i64 (i + 1) = i + 1 := wrap64 (by omega) (by omega)
    have hmu : (ns.length - IntKind.wrap .i64 (i + 1)).toNat < (ns.length - i).toNat := by rw [hw]; omega
    have hst : 0 ≤ IntKind.wrap .i64 (i + 1) ∧ IntKind.wrap .i64 (i + 1) ≤ ns.length ∧ l.set i.toNat (cloneN x) = midN ns (IntKind.wrap .i64 (i + 1)).toNat := by
      rw [hw, show (i + 1).toNat = i.toNat + 1 by omega, hI2]
      exact ⟨by omega, by omega, midN_set hx⟩
    have hst2 : ∀ y, 0 ≤ IntKind.wrap .i64 (i + 1) ∧ IntKind.wrap .i64 (i + 1) ≤ ns.length ∧ (l.set i.toNat y).set i.toNat (cloneN x) = midN ns (IntKind.wrap .i64 (i + 1)).toNat := fun y => by
      rw [List.set_set]
      exact hst
    have hget : ∀ y, (l.set i.toNat y)[i.toNat]? = some y := fun y => by rw [List.getElem?_set_self (by omega)]
    have hlen2 : ∀ y, (l.set i.toNat y).length = ns.length := fun y => by rw [List.length_set, hll]
    obtain ⟨hxo, hxr⟩ := hok x (List.mem_of_getElem? hx)
    have hb1 := hxr.1
    have hb2 := hxr.2
    clear hxr hok hI2
    obtain ⟨kd, ge, mo, us, ng, li, xrs, xrn, xws, xwn, ts, tn, da, by_, vf, ta, ls, es, pa, nx⟩ := x
    obtain ⟨hd3, hd4⟩ := hxo
    dsimp only at hb1 hb2
    rcases bytes_three hd3 with ⟨rfl, rfl⟩ | ⟨dt, rfl, rfl⟩ | ⟨da, dr, dt, rfl, rfl⟩ <;> rcases ents_three hd4 with ⟨rfl, rfl⟩ | ⟨lt, rfl, rfl⟩ | ⟨la, lr, lt, rfl, rfl⟩
    · conv => whnf
      (refine runK_ret (ev_indexRsl (sz := 25) rfl rfl rfl rfl hI0 h1) ?_)
      conv => whnf
      (refine runK_if rfl (runK_cell rfl (nodes_cell0 hxl 12 (by decide) rfl) ?_))
      conv => whnf
      with_reducible refine ⟨_, _, kb3 _ _, ?_⟩
      conv => whnf
      (refine ⟨rfl, ?_⟩)
      conv => whnf
      with_reducible refine ⟨_, _, kb6 _ _, ?_⟩
      conv => whnf
      (refine ⟨rfl, ?_⟩)
      conv => whnf
      (refine runK_ret (ev_indexRsl (sz := 25) rfl rfl rfl rfl hI0 h1) ?_)
      conv => whnf
      (refine runK_if rfl (runK_cell rfl (nodes_cell0 hxl 22 (by decide) rfl) ?_))
      conv => whnf
      with_reducible refine ⟨_, _, ke3 _ _, ?_⟩
      conv => whnf
      (refine ⟨rfl, ?_⟩)
      conv => whnf
      with_reducible refine ⟨_, _, ke6 _ _, ?_⟩
      conv => whnf
      (refine ⟨rfl, ?_⟩)
      conv => whnf
      (refine runK_ret (ev_indexRsl (sz := 25) rfl rfl rfl rfl hI0 h1) ?_)
      conv => whnf
      (refine     runK_if ⟨rfl, rfl, (by show 0 + i.toNat * 25 + 12 + 1 ≤ (nodesA l).length; rw [nodesA_len]; omega), .inl rfl⟩ ?_)
      conv => whnf
      (refine     listK_of       (splice_nodes0 (k := 12) (x' :=         ⟨kd, ge, mo, us, ng, li, xrs, xrn, xws, xwn, ts, tn, .sl0, [], vf, ta, .sl0, [], pa, nx⟩) hxl         (Nat.le_of_ble_eq_true rfl) rfl)       ?_)
      conv => whnf
      (refine runK_ret (ev_indexRsl (sz := 25) rfl rfl rfl rfl hI0 h1) ?_)
      conv => whnf
      (refine     runK_if       ⟨rfl, rfl, (by show 0 + i.toNat * 25 + 22 + 1 ≤ (nodesA (l.set i.toNat _)).length; rw [nodesA_len, hlen2]; omega),         .inl rfl⟩       ?_)
      conv => whnf
      (refine     listK_of       (splice_nodes0 (k := 22) (x' :=         ⟨kd, ge, mo, us, ng, li, xrs, xrn, xws, xwn, ts, tn, .sl0, [], vf, ta, .sl0, [], pa, nx⟩) (hget _)         (Nat.le_of_ble_eq_true rfl) rfl)       ?_)
      conv => whnf
      (refine ⟨by kernel_rfl, ?_⟩)
      conv => whnf
      (exact     ih (IntKind.wrap .i64 (i + 1), _) _       (hst2 ⟨kd, ge, mo, us, ng, li, xrs, xrn, xws, xwn, ts, tn, .sl0, [], vf, ta, .sl0, [], pa, nx⟩) hmu       (by kernel_rfl))
    · conv => whnf
      (refine runK_ret (ev_indexRsl (sz := 25) rfl rfl rfl rfl hI0 h1) ?_)
      conv => whnf
      (refine runK_if rfl (runK_cell rfl (nodes_cell0 hxl 12 (by decide) rfl) ?_))
      conv => whnf
      with_reducible refine ⟨_, _, kb3 _ _, ?_⟩
      conv => whnf
      (refine ⟨rfl, ?_⟩)
      conv => whnf
      with_reducible refine ⟨_, _, kb6 _ _, ?_⟩
      conv => whnf
      (refine ⟨rfl, ?_⟩)
      conv => whnf
      (refine runK_ret (ev_indexRsl (sz := 25) rfl rfl rfl rfl hI0 h1) ?_)
      conv => whnf
      (refine runK_if rfl (runK_cell rfl (nodes_cell0 hxl 22 (by decide) rfl) ?_))
      conv => whnf
      with_reducible refine ⟨_, _, ke2 _ _ _, ?_⟩
      conv => whnf
      (refine ⟨rfl, ?_⟩)
      conv => whnf
      with_reducible refine ⟨_, _, ke5 _ _ _, ?_⟩
      conv => whnf
      (refine ⟨rfl, ?_⟩)
      conv => whnf
      (refine runK_ret (ev_indexRsl (sz := 25) rfl rfl rfl rfl hI0 h1) ?_)
      conv => whnf
      (refine     runK_if ⟨rfl, rfl, (by show 0 + i.toNat * 25 + 12 + 1 ≤ (nodesA l).length; rw [nodesA_len]; omega), .inl rfl⟩ ?_)
      conv => whnf
      (refine     listK_of       (splice_nodes0 (k := 12) (x' :=         ⟨kd, ge, mo, us, ng, li, xrs, xrn, xws, xwn, ts, tn, .sl0, [], vf, ta, .sl [] 0 lt, [], pa, nx⟩) hxl         (Nat.le_of_ble_eq_true rfl) rfl)       ?_)
      conv => whnf
      (refine runK_ret (ev_indexRsl (sz := 25) rfl rfl rfl rfl hI0 h1) ?_)
      conv => whnf
      (refine     runK_if       ⟨rfl, rfl, (by show 0 + i.toNat * 25 + 22 + 1 ≤ (nodesA (l.set i.toNat _)).length; rw [nodesA_len, hlen2]; omega),         .inl rfl⟩       ?_)
      conv => whnf
      (refine     listK_of       (splice_nodes0 (k := 22) (x' :=         ⟨kd, ge, mo, us, ng, li, xrs, xrn, xws, xwn, ts, tn, .sl0, [], vf, ta, .sl [] 0 true, [], pa, nx⟩) (hget _)         (Nat.le_of_ble_eq_true rfl) rfl)       ?_)
      conv => whnf
      (refine ⟨by kernel_rfl, ?_⟩)
      conv => whnf
      (exact     ih (IntKind.wrap .i64 (i + 1), _) _       (hst2 ⟨kd, ge, mo, us, ng, li, xrs, xrn, xws, xwn, ts, tn, .sl0, [], vf, ta, .sl [] 0 lt, [], pa, nx⟩) hmu       (by kernel_rfl))
    · conv => whnf
      (refine runK_ret (ev_indexRsl (sz := 25) rfl rfl rfl rfl hI0 h1) ?_)
      conv => whnf
      (refine runK_if rfl (runK_cell rfl (nodes_cell0 hxl 12 (by decide) rfl) ?_))
      conv => whnf
      with_reducible refine ⟨_, _, kb3 _ _, ?_⟩
      conv => whnf
      (refine ⟨rfl, ?_⟩)
      conv => whnf
      with_reducible refine ⟨_, _, kb6 _ _, ?_⟩
      conv => whnf
      (refine ⟨rfl, ?_⟩)
      conv => whnf
      (refine runK_ret (ev_indexRsl (sz := 25) rfl rfl rfl rfl hI0 h1) ?_)
      conv => whnf
      (refine runK_if rfl (runK_cell rfl (nodes_cell0 hxl 22 (by decide) rfl) ?_))
      conv => whnf
      with_reducible refine ⟨_, _, ke1 _ _ _ _ _ hb2, ?_⟩
      conv => whnf
      (refine ⟨rfl, ?_⟩)
      conv => whnf
      with_reducible refine ⟨_, _, ke4 _ _ _ _, ?_⟩
      conv => whnf
      (refine ⟨rfl, ?_⟩)
      conv => whnf
      (refine runK_ret (ev_indexRsl (sz := 25) rfl rfl rfl rfl hI0 h1) ?_)
      conv => whnf
      (refine     runK_if ⟨rfl, rfl, (by show 0 + i.toNat * 25 + 12 + 1 ≤ (nodesA l).length; rw [nodesA_len]; omega), .inl rfl⟩ ?_)
      conv => whnf
      (refine     listK_of       (splice_nodes0 (k := 12) (x' :=         ⟨kd, ge, mo, us, ng, li, xrs, xrn, xws, xwn, ts, tn, .sl0, [], vf, ta,           .sl (entriesA (la :: lr)) (la :: lr).length lt, la :: lr, pa, nx⟩)         hxl (Nat.le_of_ble_eq_true rfl) rfl)       ?_)
      conv => whnf
      (refine runK_ret (ev_indexRsl (sz := 25) rfl rfl rfl rfl hI0 h1) ?_)
      conv => whnf
      (refine     runK_if       ⟨rfl, rfl, (by show 0 + i.toNat * 25 + 22 + 1 ≤ (nodesA (l.set i.toNat _)).length; rw [nodesA_len, hlen2]; omega),         .inl rfl⟩       ?_)
      conv => whnf
      (refine     listK_of       (splice_nodes0 (k := 22) (x' :=         ⟨kd, ge, mo, us, ng, li, xrs, xrn, xws, xwn, ts, tn, .sl0, [], vf, ta,           .sl (entriesA (la :: lr)) (la :: lr).length true, la :: lr, pa, nx⟩)         (hget _) (Nat.le_of_ble_eq_true rfl) rfl)       ?_)
      conv => whnf
      (refine ⟨by kernel_rfl, ?_⟩)
      conv => whnf
      (exact     ih (IntKind.wrap .i64 (i + 1), _) _       (hst2         ⟨kd, ge, mo, us, ng, li, xrs, xrn, xws, xwn, ts, tn, .sl0, [], vf, ta,           .sl (entriesA (la :: lr)) (la :: lr).length lt, la :: lr, pa, nx⟩)       hmu (by kernel_rfl))
    · conv => whnf
      (refine runK_ret (ev_indexRsl (sz := 25) rfl rfl rfl rfl hI0 h1) ?_)
      conv => whnf
      (refine runK_if rfl (runK_cell rfl (nodes_cell0 hxl 12 (by decide) rfl) ?_))
      conv => whnf
      with_reducible refine ⟨_, _, kb2 _ _ _, ?_⟩
      conv => whnf
      (refine ⟨rfl, ?_⟩)
      conv => whnf
      with_reducible refine ⟨_, _, kb5 _ _ _, ?_⟩
      conv => whnf
      (refine ⟨rfl, ?_⟩)
      conv => whnf
      (refine runK_ret (ev_indexRsl (sz := 25) rfl rfl rfl rfl hI0 h1) ?_)
      conv => whnf
      (refine runK_if rfl (runK_cell rfl (nodes_cell0 hxl 22 (by decide) rfl) ?_))
      conv => whnf
      with_reducible refine ⟨_, _, ke3 _ _, ?_⟩
      conv => whnf
      (refine ⟨rfl, ?_⟩)
      conv => whnf
      with_reducible refine ⟨_, _, ke6 _ _, ?_⟩
      conv => whnf
      (refine ⟨rfl, ?_⟩)
      conv => whnf
      (refine runK_ret (ev_indexRsl (sz := 25) rfl rfl rfl rfl hI0 h1) ?_)
      conv => whnf
      (refine     runK_if ⟨rfl, rfl, (by show 0 + i.toNat * 25 + 12 + 1 ≤ (nodesA l).length; rw [nodesA_len]; omega), .inl rfl⟩ ?_)
      conv => whnf
      (refine     listK_of       (splice_nodes0 (k := 12) (x' :=         ⟨kd, ge, mo, us, ng, li, xrs, xrn, xws, xwn, ts, tn, .sl [] 0 true, [], vf, ta, .sl0, [], pa, nx⟩) hxl         (Nat.le_of_ble_eq_true rfl) rfl)       ?_)
      conv => whnf
      (refine runK_ret (ev_indexRsl (sz := 25) rfl rfl rfl rfl hI0 h1) ?_)
      conv => whnf
      (refine     runK_if       ⟨rfl, rfl, (by show 0 + i.toNat * 25 + 22 + 1 ≤ (nodesA (l.set i.toNat _)).length; rw [nodesA_len, hlen2]; omega),         .inl rfl⟩       ?_)
      conv => whnf
      (refine     listK_of       (splice_nodes0 (k := 22) (x' :=         ⟨kd, ge, mo, us, ng, li, xrs, xrn, xws, xwn, ts, tn, .sl [] 0 true, [], vf, ta, .sl0, [], pa, nx⟩) (hget _)         (Nat.le_of_ble_eq_true rfl) rfl)       ?_)
      conv => whnf
      (refine ⟨by kernel_rfl, ?_⟩)
      conv => whnf
      (exact     ih (IntKind.wrap .i64 (i + 1), _) _       (hst2 ⟨kd, ge, mo, us, ng, li, xrs, xrn, xws, xwn, ts, tn, .sl [] 0 true, [], vf, ta, .sl0, [], pa, nx⟩) hmu       (by kernel_rfl))
    · conv => whnf
      (refine runK_ret (ev_indexRsl (sz := 25) rfl rfl rfl rfl hI0 h1) ?_)
      conv => whnf
      (refine runK_if rfl (runK_cell rfl (nodes_cell0 hxl 12 (by decide) rfl) ?_))
      conv => whnf
      with_reducible refine ⟨_, _, kb2 _ _ _, ?_⟩
      conv => whnf
      (refine ⟨rfl, ?_⟩)
      conv => whnf
      with_reducible refine ⟨_, _, kb5 _ _ _, ?_⟩
      conv => whnf
      (refine ⟨rfl, ?_⟩)
      conv => whnf
      (refine runK_ret (ev_indexRsl (sz := 25) rfl rfl rfl rfl hI0 h1) ?_)
      conv => whnf
      (refine runK_if rfl (runK_cell rfl (nodes_cell0 hxl 22 (by decide) rfl) ?_))
      conv => whnf
      with_reducible refine ⟨_, _, ke2 _ _ _, ?_⟩
      conv => whnf
      (refine ⟨rfl, ?_⟩)
      conv => whnf
      with_reducible refine ⟨_, _, ke5 _ _ _, ?_⟩
      conv => whnf
      (refine ⟨rfl, ?_⟩)
      conv => whnf
      (refine runK_ret (ev_indexRsl (sz := 25) rfl rfl rfl rfl hI0 h1) ?_)
      conv => whnf
      (refine     runK_if ⟨rfl, rfl, (by show 0 + i.toNat * 25 + 12 + 1 ≤ (nodesA l).length; rw [nodesA_len]; omega), .inl rfl⟩ ?_)
      conv => whnf
      (refine     listK_of       (splice_nodes0 (k := 12) (x' :=         ⟨kd, ge, mo, us, ng, li, xrs, xrn, xws, xwn, ts, tn, .sl [] 0 true, [], vf, ta, .sl [] 0 lt, [], pa, nx⟩) hxl         (Nat.le_of_ble_eq_true rfl) rfl)       ?_)
      conv => whnf
      (refine runK_ret (ev_indexRsl (sz := 25) rfl rfl rfl rfl hI0 h1) ?_)
      conv => whnf
      (refine     runK_if       ⟨rfl, rfl, (by show 0 + i.toNat * 25 + 22 + 1 ≤ (nodesA (l.set i.toNat _)).length; rw [nodesA_len, hlen2]; omega),         .inl rfl⟩       ?_)
      conv => whnf
      (refine     listK_of       (splice_nodes0 (k := 22) (x' :=         ⟨kd, ge, mo, us, ng, li, xrs, xrn, xws, xwn, ts, tn, .sl [] 0 true, [], vf, ta, .sl [] 0 true, [], pa, nx⟩)         (hget _) (Nat.le_of_ble_eq_true rfl) rfl)       ?_)
      conv => whnf
      (refine ⟨by kernel_rfl, ?_⟩)
      conv => whnf
      (exact     ih (IntKind.wrap .i64 (i + 1), _) _       (hst2 ⟨kd, ge, mo, us, ng, li, xrs, xrn, xws, xwn, ts, tn, .sl [] 0 true, [], vf, ta, .sl [] 0 lt, [], pa, nx⟩)       hmu (by kernel_rfl))
    · conv => whnf
      (refine runK_ret (ev_indexRsl (sz := 25) rfl rfl rfl rfl hI0 h1) ?_)
      conv => whnf
      (refine runK_if rfl (runK_cell rfl (nodes_cell0 hxl 12 (by decide) rfl) ?_))
      conv => whnf
      with_reducible refine ⟨_, _, kb2 _ _ _, ?_⟩
      conv => whnf
      (refine ⟨rfl, ?_⟩)
      conv => whnf
      with_reducible refine ⟨_, _, kb5 _ _ _, ?_⟩
      conv => whnf
      (refine ⟨rfl, ?_⟩)
      conv => whnf
      (refine runK_ret (ev_indexRsl (sz := 25) rfl rfl rfl rfl hI0 h1) ?_)
      conv => whnf
      (refine runK_if rfl (runK_cell rfl (nodes_cell0 hxl 22 (by decide) rfl) ?_))
      conv => whnf
      with_reducible refine ⟨_, _, ke1 _ _ _ _ _ hb2, ?_⟩
      conv => whnf
      (refine ⟨rfl, ?_⟩)
      conv => whnf
      with_reducible refine ⟨_, _, ke4 _ _ _ _, ?_⟩
      conv => whnf
      (refine ⟨rfl, ?_⟩)
      conv => whnf
      (refine runK_ret (ev_indexRsl (sz := 25) rfl rfl rfl rfl hI0 h1) ?_)
      conv => whnf
      (refine     runK_if ⟨rfl, rfl, (by show 0 + i.toNat * 25 + 12 + 1 ≤ (nodesA l).length; rw [nodesA_len]; omega), .inl rfl⟩ ?_)
      conv => whnf
      (refine     listK_of       (splice_nodes0 (k := 12) (x' :=         ⟨kd, ge, mo, us, ng, li, xrs, xrn, xws, xwn, ts, tn, .sl [] 0 true, [], vf, ta,           .sl (entriesA (la :: lr)) (la :: lr).length lt, la :: lr, pa, nx⟩)         hxl (Nat.le_of_ble_eq_true rfl) rfl)       ?_)
      conv => whnf
      (refine runK_ret (ev_indexRsl (sz := 25) rfl rfl rfl rfl hI0 h1) ?_)
      conv => whnf
      (refine     runK_if       ⟨rfl, rfl, (by show 0 + i.toNat * 25 + 22 + 1 ≤ (nodesA (l.set i.toNat _)).length; rw [nodesA_len, hlen2]; omega),         .inl rfl⟩       ?_)
      conv => whnf
      (refine     listK_of       (splice_nodes0 (k := 22) (x' :=         ⟨kd, ge, mo, us, ng, li, xrs, xrn, xws, xwn, ts, tn, .sl [] 0 true, [], vf, ta,           .sl (entriesA (la :: lr)) (la :: lr).length true, la :: lr, pa, nx⟩)         (hget _) (Nat.le_of_ble_eq_true rfl) rfl)       ?_)
      conv => whnf
      (refine ⟨by kernel_rfl, ?_⟩)
      conv => whnf
      (exact     ih (IntKind.wrap .i64 (i + 1), _) _       (hst2         ⟨kd, ge, mo, us, ng, li, xrs, xrn, xws, xwn, ts, tn, .sl [] 0 true, [], vf, ta,           .sl (entriesA (la :: lr)) (la :: lr).length lt, la :: lr, pa, nx⟩)       hmu (by kernel_rfl))
    · conv => whnf
      (refine runK_ret (ev_indexRsl (sz := 25) rfl rfl rfl rfl hI0 h1) ?_)
      conv => whnf
      (refine runK_if rfl (runK_cell rfl (nodes_cell0 hxl 12 (by decide) rfl) ?_))
      conv => whnf
      with_reducible refine ⟨_, _, kb1 _ _ _ _ _ hb1, ?_⟩
      conv => whnf
      (refine ⟨rfl, ?_⟩)
      conv => whnf
      with_reducible refine ⟨_, _, kb4 _ _ _ _, ?_⟩
      conv => whnf
      (refine ⟨rfl, ?_⟩)
      conv => whnf
      (refine runK_ret (ev_indexRsl (sz := 25) rfl rfl rfl rfl hI0 h1) ?_)
      conv => whnf
      (refine runK_if rfl (runK_cell rfl (nodes_cell0 hxl 22 (by decide) rfl) ?_))
      conv => whnf
      with_reducible refine ⟨_, _, ke3 _ _, ?_⟩
      conv => whnf
      (refine ⟨rfl, ?_⟩)
      conv => whnf
      with_reducible refine ⟨_, _, ke6 _ _, ?_⟩
      conv => whnf
      (refine ⟨rfl, ?_⟩)
      conv => whnf
      (refine runK_ret (ev_indexRsl (sz := 25) rfl rfl rfl rfl hI0 h1) ?_)
      conv => whnf
      (refine     runK_if ⟨rfl, rfl, (by show 0 + i.toNat * 25 + 12 + 1 ≤ (nodesA l).length; rw [nodesA_len]; omega), .inl rfl⟩ ?_)
      conv => whnf
      (refine     listK_of       (splice_nodes0 (k := 12) (x' :=         ⟨kd, ge, mo, us, ng, li, xrs, xrn, xws, xwn, ts, tn, .sl (numsA .u8 (da :: dr)) (da :: dr).length true,           da :: dr, vf, ta, .sl0, [], pa, nx⟩)         hxl (Nat.le_of_ble_eq_true rfl) rfl)       ?_)
      conv => whnf
      (refine runK_ret (ev_indexRsl (sz := 25) rfl rfl rfl rfl hI0 h1) ?_)
      conv => whnf
      (refine     runK_if       ⟨rfl, rfl, (by show 0 + i.toNat * 25 + 22 + 1 ≤ (nodesA (l.set i.toNat _)).length; rw [nodesA_len, hlen2]; omega),         .inl rfl⟩       ?_)
      conv => whnf
      (refine     listK_of       (splice_nodes0 (k := 22) (x' :=         ⟨kd, ge, mo, us, ng, li, xrs, xrn, xws, xwn, ts, tn, .sl (numsA .u8 (da :: dr)) (da :: dr).length true,           da :: dr, vf, ta, .sl0, [], pa, nx⟩)         (hget _) (Nat.le_of_ble_eq_true rfl) rfl)       ?_)
      conv => whnf
      (refine ⟨by kernel_rfl, ?_⟩)
      conv => whnf
      (exact     ih (IntKind.wrap .i64 (i + 1), _) _       (hst2         ⟨kd, ge, mo, us, ng, li, xrs, xrn, xws, xwn, ts, tn, .sl (numsA .u8 (da :: dr)) (da :: dr).length true,           da :: dr, vf, ta, .sl0, [], pa, nx⟩)       hmu (by kernel_rfl))
    · conv => whnf
      (refine runK_ret (ev_indexRsl (sz := 25) rfl rfl rfl rfl hI0 h1) ?_)
      conv => whnf
      (refine runK_if rfl (runK_cell rfl (nodes_cell0 hxl 12 (by decide) rfl) ?_))
      conv => whnf
      with_reducible refine ⟨_, _, kb1 _ _ _ _ _ hb1, ?_⟩
      conv => whnf
      (refine ⟨rfl, ?_⟩)
      conv => whnf
      with_reducible refine ⟨_, _, kb4 _ _ _ _, ?_⟩
      conv => whnf
      (refine ⟨rfl, ?_⟩)
      conv => whnf
      (refine runK_ret (ev_indexRsl (sz := 25) rfl rfl rfl rfl hI0 h1) ?_)
      conv => whnf
      (refine runK_if rfl (runK_cell rfl (nodes_cell0 hxl 22 (by decide) rfl) ?_))
      conv => whnf
      with_reducible refine ⟨_, _, ke2 _ _ _, ?_⟩
      conv => whnf
      (refine ⟨rfl, ?_⟩)
      conv => whnf
      with_reducible refine ⟨_, _, ke5 _ _ _, ?_⟩
      conv => whnf
      (refine ⟨rfl, ?_⟩)
      conv => whnf
      (refine runK_ret (ev_indexRsl (sz := 25) rfl rfl rfl rfl hI0 h1) ?_)
      conv => whnf
      (refine     runK_if ⟨rfl, rfl, (by show 0 + i.toNat * 25 + 12 + 1 ≤ (nodesA l).length; rw [nodesA_len]; omega), .inl rfl⟩ ?_)
      conv => whnf
      (refine     listK_of       (splice_nodes0 (k := 12) (x' :=         ⟨kd, ge, mo, us, ng, li, xrs, xrn, xws, xwn, ts, tn, .sl (numsA .u8 (da :: dr)) (da :: dr).length true,           da :: dr, vf, ta, .sl [] 0 lt, [], pa, nx⟩)         hxl (Nat.le_of_ble_eq_true rfl) rfl)       ?_)
      conv => whnf
      (refine runK_ret (ev_indexRsl (sz := 25) rfl rfl rfl rfl hI0 h1) ?_)
      conv => whnf
      (refine     runK_if       ⟨rfl, rfl, (by show 0 + i.toNat * 25 + 22 + 1 ≤ (nodesA (l.set i.toNat _)).length; rw [nodesA_len, hlen2]; omega),         .inl rfl⟩       ?_)
      conv => whnf
      (refine     listK_of       (splice_nodes0 (k := 22) (x' :=         ⟨kd, ge, mo, us, ng, li, xrs, xrn, xws, xwn, ts, tn, .sl (numsA .u8 (da :: dr)) (da :: dr).length true,           da :: dr, vf, ta, .sl [] 0 true, [], pa, nx⟩)         (hget _) (Nat.le_of_ble_eq_true rfl) rfl)       ?_)
      conv => whnf
      (refine ⟨by kernel_rfl, ?_⟩)
      conv => whnf
      (exact     ih (IntKind.wrap .i64 (i + 1), _) _       (hst2         ⟨kd, ge, mo, us, ng, li, xrs, xrn, xws, xwn, ts, tn, .sl (numsA .u8 (da :: dr)) (da :: dr).length true,           da :: dr, vf, ta, .sl [] 0 lt, [], pa, nx⟩)       hmu (by kernel_rfl))
    · conv => whnf
      (refine runK_ret (ev_indexRsl (sz := 25) rfl rfl rfl rfl hI0 h1) ?_)
      conv => whnf
      (refine runK_if rfl (runK_cell rfl (nodes_cell0 hxl 12 (by decide) rfl) ?_))
      conv => whnf
      with_reducible refine ⟨_, _, kb1 _ _ _ _ _ hb1, ?_⟩
      conv => whnf
      (refine ⟨rfl, ?_⟩)
      conv => whnf
      with_reducible refine ⟨_, _, kb4 _ _ _ _, ?_⟩
      conv => whnf
      (refine ⟨rfl, ?_⟩)
      conv => whnf
      (refine runK_ret (ev_indexRsl (sz := 25) rfl rfl rfl rfl hI0 h1) ?_)
      conv => whnf
      (refine runK_if rfl (runK_cell rfl (nodes_cell0 hxl 22 (by decide) rfl) ?_))
      conv => whnf
      with_reducible refine ⟨_, _, ke1 _ _ _ _ _ hb2, ?_⟩
      conv => whnf
      (refine ⟨rfl, ?_⟩)
      conv => whnf
      with_reducible refine ⟨_, _, ke4 _ _ _ _, ?_⟩
      conv => whnf
      (refine ⟨rfl, ?_⟩)
      conv => whnf
      (refine runK_ret (ev_indexRsl (sz := 25) rfl rfl rfl rfl hI0 h1) ?_)
      conv => whnf
      (refine     runK_if ⟨rfl, rfl, (by show 0 + i.toNat * 25 + 12 + 1 ≤ (nodesA l).length; rw [nodesA_len]; omega), .inl rfl⟩ ?_)
      conv => whnf
      (refine     listK_of       (splice_nodes0 (k := 12) (x' :=         ⟨kd, ge, mo, us, ng, li, xrs, xrn, xws, xwn, ts, tn, .sl (numsA .u8 (da :: dr)) (da :: dr).length true,           da :: dr, vf, ta, .sl (entriesA (la :: lr)) (la :: lr).length lt, la :: lr, pa, nx⟩)         hxl (Nat.le_of_ble_eq_true rfl) rfl)       ?_)
      conv => whnf
      (refine runK_ret (ev_indexRsl (sz := 25) rfl rfl rfl rfl hI0 h1) ?_)
      conv => whnf
      (refine     runK_if       ⟨rfl, rfl, (by show 0 + i.toNat * 25 + 22 + 1 ≤ (nodesA (l.set i.toNat _)).length; rw [nodesA_len, hlen2]; omega),         .inl rfl⟩       ?_)
      conv => whnf
      (refine     listK_of       (splice_nodes0 (k := 22) (x' :=         ⟨kd, ge, mo, us, ng, li, xrs, xrn, xws, xwn, ts, tn, .sl (numsA .u8 (da :: dr)) (da :: dr).length true,           da :: dr, vf, ta, .sl (entriesA (la :: lr)) (la :: lr).length true, la :: lr, pa, nx⟩)         (hget _) (Nat.le_of_ble_eq_true rfl) rfl)       ?_)
      conv => whnf
      (refine ⟨by kernel_rfl, ?_⟩)
      conv => whnf
      (exact     ih (IntKind.wrap .i64 (i + 1), _) _       (hst2         ⟨kd, ge, mo, us, ng, li, xrs, xrn, xws, xwn, ts, tn, .sl (numsA .u8 (da :: dr)) (da :: dr).length true,           da :: dr, vf, ta, .sl (entriesA (la :: lr)) (la :: lr).length lt, la :: lr, pa, nx⟩)       hmu (by kernel_rfl))
end Go.Proofs.Ytbebcbcnibfbhaa.Ab
