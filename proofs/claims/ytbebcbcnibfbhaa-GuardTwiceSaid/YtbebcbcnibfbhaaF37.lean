import Derived.Test.YtbebcbcnibfbhaaF36
/- Over the engine: what is set of a node. -/
namespace Go.Proofs.Ytbebcbcnibfbhaa.Ab
open Go Go.RowKit

set_option maxRecDepth 100000
def worldA (ss sn : Int) (bo : Nat → Int) : AV := .agg [.int .u32 ss, .int .u32 sn, .int .u8 (bo 0), .int .u8 (bo 1), .int .u8 (bo 2), .int .u8 (bo 3), .int .u8 (bo 4), .int .u8 (bo 5), .int .u8 (bo 6), .int .u8 (bo 7)]
theorem seal_tup2 {d : List AB → List AV → List AV × List AB} {bs bs' : List AB} {v v' : AV} {k k2 : IntKind} {g e : Int} (h : sealV d bs v = (v', bs')) : sealV d bs (.tup [.agg [v, .int k g], .int k2 e]) = (.tup [.agg [v', .int k g], .int k2 e], bs') := by
  simp only [sealV, sealVL, h]
theorem nodeA_clean {x : NodeS} (h1 : x.data.clean = true) (h2 : x.list.clean = true) : cleanL (nodeA x) = true := by
  unfold nodeA
  simp only [cleanL, h1, h2, AV.clean, Bool.and_self]
theorem nodesA_clean : ∀ {l : List NodeS}, (∀ x ∈ l, x.data.clean = true ∧ x.list.clean = true) → cleanL (nodesA l) = true
  | [], _ => rfl
  | x :: l, h => by
    show cleanL (nodeA x ++ nodesA l) = true
    rw [cleanL_app, nodeA_clean (h x (List.mem_cons_self ..)).1 (h x (List.mem_cons_self ..)).2, nodesA_clean fun y hy => h y (List.mem_cons_of_mem _ hy)]
    rfl
theorem row_clean {k : IntKind} {v : AV} {l : List Int} (h : rowOk k v l) : v.clean = true := by
  rcases h with ⟨rfl, _⟩ | ⟨t, rfl⟩ <;> rfl
theorem ents_clean {v : AV} {l : List EntryS} (h : entsOk v l) : v.clean = true := by
  rcases h with ⟨rfl, _⟩ | ⟨t, rfl⟩ <;> rfl
/-- A row of bytes that was made here is written no more. -/
theorem sealV_bytes {d : List AB → List AV → List AV × List AB} {bs : List AB} {b z : Nat} {c : List AV} (hb : bs[b]? = some (.cells c ⟨true, 1, false, true⟩)) (hc : c.length = z) : sealV d bs (.rsl b 0 z (some z) 0) = (.sl c z true, bs.set b (.cells c ⟨true, 1, false, false⟩)) := by
  have hs : sealB d bs b 0 = some (c, ⟨true, 1, false, true⟩, bs.set b (.cells c ⟨true, 1, false, false⟩)) := by
    unfold sealB
    simp only [hb]
    rfl
  simp only [sealV, hs, tightA, decide_true, Nat.mul_one]
  rw [if_pos ⟨by omega, by decide⟩, if_pos ⟨trivial, hc⟩]
/-- The nodes, of which one has such bytes. -/
theorem sealVL_one {d : List AB → List AV → List AV × List AB} {bs : List AB} {b z : Nat} {c : List AV} (hb : bs[b]? = some (.cells c ⟨true, 1, false, true⟩)) (hc : c.length = z) : ∀ (l : List NodeS) (i : Nat) (y : NodeS), (∀ x ∈ l, x.data.clean = true ∧ x.list.clean = true) → i < l.length → y.data = .rsl b 0 z (some z) 0 → y.list.clean = true →
    sealVL d bs (nodesA (l.set i y)) = (nodesA (l.set i { y with data := .sl c z true }), bs.set b (.cells c ⟨true, 1, false, false⟩))
  | [], i, y, _, hi, _, _ => by simp at hi
  | x :: l, 0, y, hl, _, hy, hyl => by
    show sealVL d bs (nodeA y ++ nodesA l) = (nodeA { y with data := .sl c z true } ++ nodesA l, _)
    have h1 : sealVL d bs (nodeA y) = (nodeA { y with data := .sl c z true }, bs.set b (.cells c ⟨true, 1, false, false⟩)) := by
      unfold nodeA
      have hl2 : ∀ bs, sealV d bs y.list = (y.list, bs) := fun bs => sealV_clean d bs _ hyl
      have hd2 : sealV d bs y.data = (.sl c z true, bs.set b (.cells c ⟨true, 1, false, false⟩)) := by rw [hy]; exact sealV_bytes hb hc
      have hi2 : ∀ (bs : List AB) (k : IntKind) (n : Int), sealV d bs (.int k n) = (.int k n, bs) := fun bs k n => by simp only [sealV]
      have hs2 : ∀ (bs : List AB) (n : List UInt8), sealV d bs (.str n) = (.str n, bs) := fun bs n => by simp only [sealV]
      simp only [sealVL, hl2, hd2, hi2, hs2]
    rw [sealVL_app, h1, sealVL_clean d _ (nodesA l) (nodesA_clean fun x hx => hl x (List.mem_cons_of_mem _ hx))]
  | x :: l, i + 1, y, hl, hi, hy, hyl => by
    show sealVL d bs (nodeA x ++ nodesA (l.set i y)) = (nodeA x ++ nodesA (l.set i { y with data := .sl c z true }), _)
    rw [sealVL_app, sealVL_clean d bs (nodeA x) (nodeA_clean (hl x (List.mem_cons_self ..)).1 (hl x (List.mem_cons_self ..)).2), sealVL_one hb hc l i y (fun x hx => hl x (List.mem_cons_of_mem _ hx)) (by simpa using hi) hy hyl]
theorem deeds_d (s : SetS) (ss sn : Int) (d d' : AV) (x : NodeS) (h : s.hs = false) : deeds s ss sn d x = deeds s ss sn d' x := by
  unfold deeds deed4
  rw [h, if_neg (by decide), if_neg (by decide)]
theorem deeds_with (s : SetS) (ss sn : Int) (d d' : AV) (x : NodeS) (h : s.hs = true) : { deeds s ss sn d x with data := d' } = deeds s ss sn d' x ∧ (deeds s ss sn d x).data = d := by
  unfold deeds deed4
  rw [if_pos h, if_pos h]
  generalize deed3 s ss sn (deed2 s ss sn (deed1 s ss sn x)) = y
  unfold deed6 deed5
  cases (s.wh == 2) <;> cases (s.wh == 1) <;> cases (s.rh == 2) <;> cases (s.rh == 1) <;> exact ⟨rfl, rfl⟩
theorem deeds_list (s : SetS) (ss sn : Int) (d : AV) (x : NodeS) : (deeds s ss sn d x).list = x.list := by
  simp only [deeds, deed6, deed5, deed4, deed3, deed2, deed1, apply_ite NodeS.list, ite_self]
theorem deeds_data (s : SetS) (ss sn : Int) (d : AV) (x : NodeS) : (deeds s ss sn d x).data = if s.hs = true then d else x.data := by
  simp only [deeds, deed6, deed5, deed4, deed3, deed2, deed1, apply_ite NodeS.data, ite_self]
/-- What is set of a node's tree. -/
def setN (ns : List NodeS) (n : Int) (s : SetS) (ss sn : Int) (x : NodeS) : List NodeS := (ns.map cloneN).set n.toNat (deeds s ss sn (.sl (numsA .u8 (sized x.bytes s.size.toNat)) s.size.toNat true) (cloneN x))

set_option maxHeartbeats 8000000 in
theorem set_ok (m : Nat) (from_ : FuncId) (h : H) (ns : List NodeS) (t : Bool) (gen n : Int) (c : CredS) (hc : c.ok) (s : SetS) (ss sn : Int) (bo : Nat → Int) (hok : ∀ x ∈ ns, x.fit) (hn : thereS ns n = true) (x : NodeS) (hx : ns[n.toNat]? = some x) (hlen : ns.length ≤ 300) (hsz : 0 ≤ s.size) (hsm : s.hs = true → s.size ≤ 65536)
    (e1 : formS s sn = 0) (e2 : ownerS x c s (ownsS ns n c) = false) (e3 : sizeB x s (ownsS ns n c || mayX x c 2) = 0) (e4 : stampsB s (ownsS ns n c) (ownsS ns n c || mayX x c 2) = 0) : evCall TE (m + 7) from_ (.fn 12 [] []) [.agg [.sl (nodesA ns) ns.length t, .int .u32 gen], .int .i64 n, .agg [.int .u32 c.user, .int .u32 c.group, c.gs], .agg (setA s), worldA ss sn bo] h = some (.ret (.tup [.agg [.sl (nodesA (setN ns n s ss sn x)) ns.length true, .int .u32 gen], .int .u32 0]), h) := by
  obtain ⟨w, hw⟩ : ∃ w, w = setN ns n s ss sn x := ⟨_, rfl⟩
  rw [← hw]
  have c1 : ∀ (f : FuncId) (h : H), (evAll TE (m + 6)).1 f (.fn 26 [] []) [.agg [.sl (nodesA ns) ns.length t, .int .u32 gen], .int .i64 n] h = some (.ret (.tup [.agg (attrsS x n), .bool true]), h) := fun f h => attrs_some (m + 4) f h _ ns (.inr ⟨t, rfl⟩) gen n x hn hx (hok x (List.mem_of_getElem? hx)).1
  have c2 : ∀ (f : FuncId) (h : H), (evAll TE (m + 6)).1 f (.fn 34 [] []) [.agg [.sl (nodesA ns) ns.length t, .int .u32 gen], .int .i64 n, .agg [.int .u32 c.user, .int .u32 c.group, c.gs]] h = some (.ret (.bool (ownsS ns n c)), h) := fun f h => owns_c (m + 3) f h _ ns (.inr ⟨t, rfl⟩) (fun x hx => (hok x hx).1) gen n c hc
  generalize ownsS ns n c = ow at *
  have hcl : cleanL [askA (.sl (nodesA ns) ns.length t) gen n c s ss sn ow] = true := by
    unfold askA
    rcases hc.1 with ⟨hg, _⟩ | ⟨tt, hg⟩ <;> rw [hg] <;> rfl
  have hrw : ∀ f g : FuncId, (g = 35 ∨ g = 36 ∨ g = 37 ∨ g = 38) → TE.raw f g = false := by
    intro f g hg
    rcases hg with rfl | rfl | rfl | rfl <;> rfl
  have c3 : ∀ (f : FuncId) (h : H), (evAll TE (m + 6)).1 f (.fn 35 [askA (.sl (nodesA ns) ns.length t) gen n c s ss sn ow] []) [] h = some (.ret (.int .u32 (formS s sn)), h) := fun f h => (call_bound hcl (hrw f _ (.inl rfl))).trans <| form_c (m + 4) f h ns t gen n c hc s ss sn ow
  have c4 : ∀ (f : FuncId) (h : H), (evAll TE (m + 6)).1 f (.fn 36 [askA (.sl (nodesA ns) ns.length t) gen n c s ss sn ow] []) [] h = some (.ret (.int .u32 (if ownerS x c s ow = true then 1 else 0)), h) := fun f h => (call_bound hcl (hrw f _ (.inr (.inl rfl)))).trans <| owner_c (m + 1) f h ns t gen n c hc s ss sn ow (fun x hx => (hok x hx).1) hn x hx
  have c5 : ∀ (f : FuncId) (h : H), (evAll TE (m + 6)).1 f (.fn 37 [askA (.sl (nodesA ns) ns.length t) gen n c s ss sn ow] []) [] h = some (.ret (.int .u32 (sizeB x s (ow || mayX x c 2))), h) := fun f h => (call_bound hcl (hrw f _ (.inr (.inr (.inl rfl))))).trans <| size_c m f h ns t gen n c hc s ss sn ow (fun x hx => (hok x hx).1) hn x hx
  have c6 : ∀ (f : FuncId) (h : H), (evAll TE (m + 6)).1 f (.fn 38 [askA (.sl (nodesA ns) ns.length t) gen n c s ss sn ow] []) [] h = some (.ret (.int .u32 (stampsB s ow (ow || mayX x c 2))), h) := fun f h => (call_bound hcl (hrw f _ (.inr (.inr (.inr rfl))))).trans <| stamps_c m f h ns t gen n c hc s ss sn ow (fun x hx => (hok x hx).1) hn x hx
  rw [e1] at c3
  rw [e2] at c4
  rw [e3] at c5
  rw [e4] at c6
  have hn0 : 0 ≤ n := by unfold thereS at hn; rw [Bool.and_eq_true, Bool.and_eq_true, decide_eq_true_eq, decide_eq_true_eq] at hn; omega
  have hn1 : n < ns.length := by unfold thereS at hn; rw [Bool.and_eq_true, Bool.and_eq_true, decide_eq_true_eq, decide_eq_true_eq] at hn; omega
  unfold askA at c3 c4 c5 c6
  obtain ⟨u, gr, gs, l⟩ := c
  dsimp only at c1 c2 c3 c4 c5 c6 ⊢
  obtain ⟨hm, mode, hu, user, hg, group, hs, size, rh, rs, rn, wh, ws, wn⟩ := s
  unfold attrsS at c1
  unfold setA worldA
  dsimp only at c3 c4 c5 c6 ⊢
  dsimp only at hsz hsm
  have hcN : ∀ y ∈ ns.map cloneN, y.data.clean = true ∧ y.list.clean = true := by
    intro y hy
    obtain ⟨z, hz, rfl⟩ := List.mem_map.1 hy
    exact ⟨row_clean (bytesC_ok (hok z hz).1.1), ents_clean (entsC_ok (hok z hz).1.2)⟩
  have hxm : (ns.map cloneN)[n.toNat]? = some (cloneN x) := by rw [List.getElem?_map, hx]; rfl
  have hxo := (hok x (List.mem_of_getElem? hx)).1
  obtain ⟨h1, h2⟩ := hc
  dsimp only at h1 h2
  rcases h1 with ⟨rfl, rfl⟩ | ⟨tt, rfl⟩
  · refine call_cleanE (fn := Try.f12) rfl Try.func12 rfl rfl rfl rfl rfl (Nat.le_of_ble_eq_true rfl) ?_
    intro End hE
    conv => whnf
    with_reducible refine ⟨_, _, c1 _ _, ?_⟩
    conv => whnf
    with_reducible refine ⟨_, _, c2 _ _, ?_⟩
    conv => whnf
    (refine ⟨rfl, ?_⟩)
    conv => whnf
    (refine ⟨by kernel_rfl, ?_⟩)
    conv => whnf
    (with_reducible refine ⟨(5 : Nat), ?_, ?_⟩; · exact Nat.le_of_ble_eq_true rfl)
    conv => whnf
    with_reducible refine ⟨_, _, c3 _ _, ?_⟩
    conv => whnf
    with_reducible refine ⟨_, _, c4 _ _, ?_⟩
    conv => whnf
    with_reducible refine ⟨_, _, c5 _ _, ?_⟩
    conv => whnf
    with_reducible refine ⟨_, _, c6 _ _, ?_⟩
    conv => whnf
    (refine clone_K (m + 4) _ _ ns t gen hok hlen _ _ _ _ _ _ _ _ _ _ _ _ _ _ _ _ _ _ _ rfl ?_)
    conv => whnf
    (refine runK_ret (ev_indexRsl (sz := 25) rfl rfl rfl rfl hn0 hn1) ?_)
    conv => whnf
    refine deeds_K (.cells [.rsl 21 0 ns.length (some ns.length) 0, .int .u32 gen] ⟨false, 0, false, true⟩) (.cells [.int .u32 u, .int .u32 gr, .sl0] ⟨false, 0, false, true⟩) (.cells [.sl0, .int .u32 0] ⟨false, 0, false, true⟩) (.cells [.int .u32 x.kind, .int .u32 x.mode, .int .u32 (IntKind.wrap .u32 x.links), .int .u32 x.user, .int .u32 x.group, .int .u64 (IntKind.wrap .u64 (sizeS x)), .int .u64 (IntKind.wrap .u64 (sizeS x)), .int .u64 (IntKind.wrap .u64 n), .int .u32 x.rs, .int .u32 x.rn, .int .u32 x.ws, .int .u32 x.wn, .int .u32 x.ts, .int .u32 x.tn] ⟨false, 0, false, true⟩) .void .void .void .void .void .void .void .void .void .void .void (.cells [.sl (nodesA ns) ns.length t, .int .u32 gen, .int .i64 n, .int .u32 u, .int .u32 gr, .sl0, .bool hm, .int .u32 mode, .bool hu, .int .u32 user, .bool hg, .int .u32 group, .bool hs, .int .u64 size, .int .u32 rh, .int .u32 rs, .int .u32 rn, .int .u32 wh, .int .u32 ws, .int .u32 wn, .int .u32 ss, .int .u32 sn, .bool ow] ⟨false, 0, false, true⟩) .void (.cells [.rsl 21 0 ns.length (some ns.length) 0, .int .u32 gen] ⟨false, 0, false, true⟩) (.cells [.rsl 21 0 ns.length (some ns.length) 0, .int .u32 gen] ⟨false, 0, false, true⟩) ⟨hm, mode, hu, user, hg, group, hs, size, rh, rs, rn, wh, ws, wn⟩ ss sn bo n (m + 3) _ _ _ (ns.map cloneN) (cloneN x) (by rw [List.length_map]; exact hlen) hn0 (by rw [List.length_map]; exact hn1) hxm (bytesC_ok hxo.1) hsz hsm (by kernel_rfl) ?_
    intro L y hy hLy hL
    have hLl : (nodesA L).length = ns.length * 25 := by rw [nodesA_len, hL, List.length_set, List.length_map]
    cases hs with
    | false =>
      have hw2 : w = L := by
        rw [hw, hL, hy]
        unfold setN
        rw [deeds_d _ ss sn _ (.rsl 24 0 (Int.toNat size) (some (Int.toNat size)) 0) (cloneN x) rfl]
      have hcl2 : cleanL (nodesA L) = true := by
        refine nodesA_clean fun z hz => ?_
        rw [hL] at hz
        rcases List.mem_or_eq_of_mem_set hz with h | rfl
        · exact hcN z h
        · rw [hy, deeds_data, deeds_list, if_neg (fun h => Bool.noConfusion h)]
          exact hcN _ (List.mem_of_getElem? hxm)
      rw [hw2] at hE
      conv => whnf
      (refine     hE _ _ [.agg [.rsl 21 0 ns.length (some ns.length) 0, .int .u32 gen], .int .u32 0] _ _ (.inr rfl) (by kernel_rfl)       (leaveA_of         (seal_tup2           (seal_deep rfl rfl rfl rfl (sealVL_clean _ _ _ hcl2) rfl hcl2 rfl rfl rfl rfl rfl hLl             (Nat.le_of_ble_eq_true rfl)))         rfl rfl)       ?_)
      conv => whnf
      (simp only [tightA, decide_true])
    | true =>
      have hzs : (numsA .u8 y.bytes).length = size.toNat := by
        rw [hy, deeds_bytes, if_pos rfl]
        simp [numsA, sized_len]
      have hdd := deeds_with ⟨hm, mode, hu, user, hg, group, true, size, rh, rs, rn, wh, ws, wn⟩ ss sn (.rsl 24 0 size.toNat (some size.toNat) 0) (.sl (numsA .u8 (sized x.bytes size.toNat)) size.toNat true) (cloneN x) rfl
      have hw2 : w = (ns.map cloneN).set n.toNat { y with data := .sl (numsA .u8 y.bytes) size.toNat true } := by
        rw [hw]
        unfold setN
        have hb : y.bytes = sized x.bytes size.toNat := by rw [hy, deeds_bytes, if_pos rfl]; rfl
        rw [show numsA .u8 y.bytes = numsA .u8 (sized x.bytes size.toNat) from congrArg _ hb, hy]
        exact congrArg (fun z => (ns.map cloneN).set n.toNat z) hdd.1.symm
      have hyd : y.data = .rsl 24 0 size.toNat (some size.toNat) 0 := by rw [hy]; exact hdd.2
      have hyl : y.list.clean = true := by rw [hy, deeds_list]; exact (hcN _ (List.mem_of_getElem? hxm)).2
      have hone := fun (bs : List AB) (hb : bs[24]? = some (.cells (numsA .u8 y.bytes) ⟨true, 1, false, true⟩)) => sealVL_one (d := sealL 3) hb hzs (ns.map cloneN) n.toNat y hcN (by rw [List.length_map]; omega) hyd hyl
      rw [← hL, ← hw2] at hone
      have hwl : (nodesA w).length = (nodesA L).length := by rw [nodesA_len, nodesA_len, hL, hw2, List.length_set, List.length_set]
      have hcl2 : cleanL (nodesA w) = true := by
        refine nodesA_clean fun z hz => ?_
        rw [hw2] at hz
        rcases List.mem_or_eq_of_mem_set hz with h | rfl
        · exact hcN z h
        · exact ⟨rfl, hyl⟩
      conv => whnf
      (refine     hE _ _ [.agg [.rsl 21 0 ns.length (some ns.length) 0, .int .u32 gen], .int .u32 0] _ _ (.inr rfl) (by kernel_rfl)       (leaveA_of         (seal_tup2           (seal_deep rfl rfl rfl rfl (hone _ rfl) rfl hcl2 hwl rfl rfl rfl rfl hLl (Nat.le_of_ble_eq_true rfl)))         rfl rfl)       ?_)
      conv => whnf
      (simp only [tightA, decide_true])
  · refine call_cleanE (fn := Try.f12) rfl Try.func12 rfl rfl rfl rfl rfl (Nat.le_of_ble_eq_true rfl) ?_
    intro End hE
    conv => whnf
    with_reducible refine ⟨_, _, c1 _ _, ?_⟩
    conv => whnf
    with_reducible refine ⟨_, _, c2 _ _, ?_⟩
    conv => whnf
    (refine ⟨rfl, ?_⟩)
    conv => whnf
    (refine ⟨by kernel_rfl, ?_⟩)
    conv => whnf
    (with_reducible refine ⟨(5 : Nat), ?_, ?_⟩; · exact Nat.le_of_ble_eq_true rfl)
    conv => whnf
    with_reducible refine ⟨_, _, c3 _ _, ?_⟩
    conv => whnf
    with_reducible refine ⟨_, _, c4 _ _, ?_⟩
    conv => whnf
    with_reducible refine ⟨_, _, c5 _ _, ?_⟩
    conv => whnf
    with_reducible refine ⟨_, _, c6 _ _, ?_⟩
    conv => whnf
    (refine clone_K (m + 4) _ _ ns t gen hok hlen _ _ _ _ _ _ _ _ _ _ _ _ _ _ _ _ _ _ _ rfl ?_)
    conv => whnf
    (refine runK_ret (ev_indexRsl (sz := 25) rfl rfl rfl rfl hn0 hn1) ?_)
    conv => whnf
    refine deeds_K (.cells [.rsl 21 0 ns.length (some ns.length) 0, .int .u32 gen] ⟨false, 0, false, true⟩) (.cells [.int .u32 u, .int .u32 gr, .sl (numsA .u32 l) l.length tt] ⟨false, 0, false, true⟩) (.cells [.sl0, .int .u32 0] ⟨false, 0, false, true⟩) (.cells [.int .u32 x.kind, .int .u32 x.mode, .int .u32 (IntKind.wrap .u32 x.links), .int .u32 x.user, .int .u32 x.group, .int .u64 (IntKind.wrap .u64 (sizeS x)), .int .u64 (IntKind.wrap .u64 (sizeS x)), .int .u64 (IntKind.wrap .u64 n), .int .u32 x.rs, .int .u32 x.rn, .int .u32 x.ws, .int .u32 x.wn, .int .u32 x.ts, .int .u32 x.tn] ⟨false, 0, false, true⟩) .void .void .void .void .void .void .void .void .void .void .void (.cells [.sl (nodesA ns) ns.length t, .int .u32 gen, .int .i64 n, .int .u32 u, .int .u32 gr, .sl (numsA .u32 l) l.length tt, .bool hm, .int .u32 mode, .bool hu, .int .u32 user, .bool hg, .int .u32 group, .bool hs, .int .u64 size, .int .u32 rh, .int .u32 rs, .int .u32 rn, .int .u32 wh, .int .u32 ws, .int .u32 wn, .int .u32 ss, .int .u32 sn, .bool ow] ⟨false, 0, false, true⟩) .void (.cells [.rsl 21 0 ns.length (some ns.length) 0, .int .u32 gen] ⟨false, 0, false, true⟩) (.cells [.rsl 21 0 ns.length (some ns.length) 0, .int .u32 gen] ⟨false, 0, false, true⟩) ⟨hm, mode, hu, user, hg, group, hs, size, rh, rs, rn, wh, ws, wn⟩ ss sn bo n (m + 3) _ _ _ (ns.map cloneN) (cloneN x) (by rw [List.length_map]; exact hlen) hn0 (by rw [List.length_map]; exact hn1) hxm (bytesC_ok hxo.1) hsz hsm (by kernel_rfl) ?_
    intro L y hy hLy hL
    have hLl : (nodesA L).length = ns.length * 25 := by rw [nodesA_len, hL, List.length_set, List.length_map]
    cases hs with
    | false =>
      have hw2 : w = L := by
        rw [hw, hL, hy]
        unfold setN
        rw [deeds_d _ ss sn _ (.rsl 24 0 (Int.toNat size) (some (Int.toNat size)) 0) (cloneN x) rfl]
      have hcl2 : cleanL (nodesA L) = true := by
        refine nodesA_clean fun z hz => ?_
        rw [hL] at hz
        rcases List.mem_or_eq_of_mem_set hz with h | rfl
        · exact hcN z h
        · rw [hy, deeds_data, deeds_list, if_neg (fun h => Bool.noConfusion h)]
          exact hcN _ (List.mem_of_getElem? hxm)
      rw [hw2] at hE
      conv => whnf
      (refine     hE _ _ [.agg [.rsl 21 0 ns.length (some ns.length) 0, .int .u32 gen], .int .u32 0] _ _ (.inr rfl) (by kernel_rfl)       (leaveA_of         (seal_tup2           (seal_deep rfl rfl rfl rfl (sealVL_clean _ _ _ hcl2) rfl hcl2 rfl rfl rfl rfl rfl hLl             (Nat.le_of_ble_eq_true rfl)))         rfl rfl)       ?_)
      conv => whnf
      (simp only [tightA, decide_true])
    | true =>
      have hzs : (numsA .u8 y.bytes).length = size.toNat := by
        rw [hy, deeds_bytes, if_pos rfl]
        simp [numsA, sized_len]
      have hdd := deeds_with ⟨hm, mode, hu, user, hg, group, true, size, rh, rs, rn, wh, ws, wn⟩ ss sn (.rsl 24 0 size.toNat (some size.toNat) 0) (.sl (numsA .u8 (sized x.bytes size.toNat)) size.toNat true) (cloneN x) rfl
      have hw2 : w = (ns.map cloneN).set n.toNat { y with data := .sl (numsA .u8 y.bytes) size.toNat true } := by
        rw [hw]
        unfold setN
        have hb : y.bytes = sized x.bytes size.toNat := by rw [hy, deeds_bytes, if_pos rfl]; rfl
        rw [show numsA .u8 y.bytes = numsA .u8 (sized x.bytes size.toNat) from congrArg _ hb, hy]
        exact congrArg (fun z => (ns.map cloneN).set n.toNat z) hdd.1.symm
      have hyd : y.data = .rsl 24 0 size.toNat (some size.toNat) 0 := by rw [hy]; exact hdd.2
      have hyl : y.list.clean = true := by rw [hy, deeds_list]; exact (hcN _ (List.mem_of_getElem? hxm)).2
      have hone := fun (bs : List AB) (hb : bs[24]? = some (.cells (numsA .u8 y.bytes) ⟨true, 1, false, true⟩)) => sealVL_one (d := sealL 3) hb hzs (ns.map cloneN) n.toNat y hcN (by rw [List.length_map]; omega) hyd hyl
      rw [← hL, ← hw2] at hone
      have hwl : (nodesA w).length = (nodesA L).length := by rw [nodesA_len, nodesA_len, hL, hw2, List.length_set, List.length_set]
      have hcl2 : cleanL (nodesA w) = true := by
        refine nodesA_clean fun z hz => ?_
        rw [hw2] at hz
        rcases List.mem_or_eq_of_mem_set hz with h | rfl
        · exact hcN z h
        · exact ⟨rfl, hyl⟩
      conv => whnf
      (refine     hE _ _ [.agg [.rsl 21 0 ns.length (some ns.length) 0, .int .u32 gen], .int .u32 0] _ _ (.inr rfl) (by kernel_rfl)       (leaveA_of         (seal_tup2           (seal_deep rfl rfl rfl rfl (hone _ rfl) rfl hcl2 hwl rfl rfl rfl rfl hLl (Nat.le_of_ble_eq_true rfl)))         rfl rfl)       ?_)
      conv => whnf
      (simp only [tightA, decide_true])
end Go.Proofs.Ytbebcbcnibfbhaa.Ab
