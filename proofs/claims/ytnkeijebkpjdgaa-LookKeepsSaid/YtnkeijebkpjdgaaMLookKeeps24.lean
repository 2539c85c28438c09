import Derived.Test.YtnkeijebkpjdgaaMLookKeeps23
set_option linter.unusedVariables false
set_option linter.unusedSimpArgs false
/- Over the engine: what only looks: attributes, what may be, links, commits. -/
namespace Go.Proofs.Ytnkeijebkpjdgaa.Ab
open Go Go.RowKit

set_option maxRecDepth 100000
set_option maxHeartbeats 8000000 in
theorem look_fine1 (m : Nat) (from_ : FuncId) (h : H) (ns : List NodeS) (t : Bool) (gen : Int) (c : CredS) (hc : c.ok) (a : ArgsS) (ha : a.ok) (ss sn : Int) (bo : Nat → Int) (hok : ∀ x ∈ ns, x.fit) (hlen : ns.length ≤ 1025) (hlen2 : ns ≠ []) (hK : ∀ (f : FuncId) (h : H), evCall TE (m + 29) f (.fn 7 [] []) [.agg [.sl (nodesA ns) ns.length t, .int .u32 gen]] h = some (.ret (.bool true), h)) (hp : a.proc = 1) (hno : nanoOk sn = true) (n : Int) (x : NodeS) (hn : thereS ns n = true) (hx : ns[n.toNat]? = some x) (hF : ∀ (f : FuncId) (h : H), evCall TE (m + 29) f (.fn 10 [] []) [.agg [.sl (nodesA ns) ns.length t, .int .u32 gen], a.h] h = some (.ret (.tup [.int .i64 n, .int .u32 0]), h)) : evCall TE (m + 30) from_ (.fn 9 [] []) [.agg [.sl (nodesA ns) ns.length t, .int .u32 gen], .agg (credL c), .agg (argL a), .agg (worldL ss sn bo)] h = some (.ret (.tup [.agg [.sl (nodesA (ns.map cloneN)) ns.length true, .int .u32 gen], .agg (ansA a.proc { stat := 0, ha := true, at_ := attrsS x n })]), h) := by
  have cT : ∀ (h : H), (evAll TE (m + 29)).1 9 (.fn 30 [] []) [.agg [.sl (nodesA ns) ns.length t, .int .u32 gen]] h = some (.ret (.agg [.sl (nodesA (ns.map cloneN)) ns.length true, .int .u32 gen]), h) := fun h => twinL_c (m + 27) h ns t gen hok hlen hlen2
  have cD : ∀ (f : FuncId) (h : H), (evAll TE (m + 29)).1 f (.fn 32 [] []) [.int .u32 a.proc] h = some (.ret (.bool (doesS a.proc)), h) := fun f h => does_c (m + 27) f h a.proc
  have cK : ∀ (f : FuncId) (h : H), (evAll TE (m + 29)).1 f (.fn 7 [] []) [.agg [.sl (nodesA ns) ns.length t, .int .u32 gen]] h = some (.ret (.bool true), h) := hK
  have cN : ∀ (f : FuncId) (h : H), (evAll TE (m + 29)).1 f (.fn 26 [] []) [.agg [.int .u32 ss, .int .u32 sn]] h = some (.ret (.bool (nanoOk sn)), h) := fun f h => times_c (m + 28) f h ss sn
  have hone1 := cred_one hc
  have hone2 := args_one ha
  have hone3 := work_one (ns := ns) (gen := gen) (ss := ss) (sn := sn) (bo := bo) hc ha
  have htop3 := work_top (ns := ns) (gen := gen) (ss := ss) (sn := sn) (bo := bo) hc ha
  clear hK
  have hcl : cleanL [.agg [.sl (nodesA ns) ns.length t, .int .u32 gen], .agg (credL c), .agg (argL a), .agg (worldL ss sn bo)] = true := by
    have h1 := row_clean hc.1
    have h2 := row_clean ha.h
    have h3 := row_clean ha.h2
    have h4 := row_clean ha.data
    simp [cleanL, AV.clean, credL, argL, worldL, h1, h2, h3, h4]
  have cF : ∀ (f : FuncId) (h : H), (evAll TE (m + 29)).1 f (.fn 10 [] []) [.agg [.sl (nodesA ns) ns.length t, .int .u32 gen], a.h] h = some (.ret (.tup [.int .i64 n, .int .u32 0]), h) := hF
  have hd : doesS a.proc = true := by rw [hp]; rfl
  have hm : thereS (ns.map cloneN) n = true := by rw [thereS_clone]; exact hn
  have hmx : (ns.map cloneN)[n.toNat]? = some (cloneN x) := by rw [List.getElem?_map, hx]; rfl
  have hml : (ns.map cloneN).length = ns.length := List.length_map ..
  have hxf := hok x (List.mem_of_getElem? hx)
  have hmo : (cloneN x).ok := ⟨bytesC_ok hxf.1.1, entsC_ok hxf.1.2⟩
  have hmv : nodesOk (.sl (nodesA (ns.map cloneN)) ns.length true) (ns.map cloneN) := .inr ⟨true, by rw [hml]⟩
  obtain ⟨hn1, hn2, _⟩ := there_facts hn
  have hn0 : 0 ≤ n := by omega
  have cA : ∀ (k : Nat) (f : FuncId) (h : H), (evAll TE (k + 2)).1 f (.fn 37 [] []) [.agg [.sl (nodesA (ns.map cloneN)) ns.length true, .int .u32 gen], .int .i64 n] h = some (.ret (.tup [.agg (attrsS x n), .bool true]), h) := fun k f h => attrs_some k f h _ _ hmv gen n (cloneN x) hm hmx hmo
  clear hF
  have hah := ha.h
  obtain ⟨p, hv, hl, nm, h2, h2l, nm2, st, hasG, gs, gn, bits, off, cnt, mx, stb, dat, datl, tg, how, kd, vf, ck⟩ := a
  dsimp only at hah cD cF hd hp hone2 hone3 htop3 hcl ⊢
  subst hp
  rcases hah with ⟨rfl, rfl⟩ | ⟨tt, rfl⟩
  · unfold attrsS at cA ⊢
    generalize IntKind.wrap .u64 (sizeS x) = sz at cA ⊢
    generalize IntKind.wrap .u32 x.links = lk at cA ⊢
    generalize IntKind.wrap .u64 n = idn at cA ⊢
    refine call_clean (fn := Try.f9) rfl Try.func9 rfl rfl hcl rfl rfl (Nat.le_of_ble_eq_true rfl) ?_
    conv => whnf
    (refine runK_ret (ev_box rfl hone1) ?_)
    conv => whnf
    (refine runK_ret (ev_box rfl hone2) ?_)
    conv => whnf
    with_reducible refine ⟨_, _, cT _, ?_⟩
    conv => whnf
    (refine ⟨by kernel_rfl, ?_⟩)
    conv => whnf
    (refine runK_ret (ev_box rfl hone3) ?_)
    conv => whnf
    (refine listK_of (if_pos (Nat.le_trans (Nat.le_of_eq htop3) (Nat.zero_le _))) ?_)
    conv => whnf
    (refine ⟨by kernel_rfl, ?_⟩)
    conv => whnf
    (refine call_raw (fn := Try.f31) rfl Try.func31 rfl rfl (Nat.le_of_ble_eq_true rfl) ?_)
    conv => whnf
    (refine ⟨by kernel_rfl, ?_⟩)
    conv => whnf
    with_reducible refine ⟨_, _, cD _ _, ?_⟩
    conv => whnf
    with_reducible refine ⟨_, _, cK _ _, ?_⟩
    conv => whnf
    with_reducible refine ⟨_, _, cN _ _, ?_⟩
    conv => whnf
    ((with_reducible cases z0 : nanoOk sn) <;> try exact Bool.noConfusion (Eq.trans (Eq.symm z0) hno))
    conv => whnf
    with_reducible refine ⟨_, _, cF _ _, ?_⟩
    conv => whnf
    (refine call_inline (fn := Try.f53) rfl Try.func53 rfl rfl ?_)
    conv => whnf
    (refine call_inline (fn := Try.f68) rfl Try.func68 rfl rfl ?_)
    conv => whnf
    with_reducible refine ⟨_, _, cA _ _ _, ?_⟩
    conv => whnf
    (refine ⟨by kernel_rfl, ?_⟩)
    conv => whnf
    (refine ⟨by kernel_rfl, ?_⟩)
    conv => whnf
    (refine ⟨by kernel_rfl, ?_⟩)
    conv => whnf
    rfl
  · unfold attrsS at cA ⊢
    generalize IntKind.wrap .u64 (sizeS x) = sz at cA ⊢
    generalize IntKind.wrap .u32 x.links = lk at cA ⊢
    generalize IntKind.wrap .u64 n = idn at cA ⊢
    refine call_clean (fn := Try.f9) rfl Try.func9 rfl rfl hcl rfl rfl (Nat.le_of_ble_eq_true rfl) ?_
    conv => whnf
    (refine runK_ret (ev_box rfl hone1) ?_)
    conv => whnf
    (refine runK_ret (ev_box rfl hone2) ?_)
    conv => whnf
    with_reducible refine ⟨_, _, cT _, ?_⟩
    conv => whnf
    (refine ⟨by kernel_rfl, ?_⟩)
    conv => whnf
    (refine runK_ret (ev_box rfl hone3) ?_)
    conv => whnf
    (refine listK_of (if_pos (Nat.le_trans (Nat.le_of_eq htop3) (Nat.zero_le _))) ?_)
    conv => whnf
    (refine ⟨by kernel_rfl, ?_⟩)
    conv => whnf
    (refine call_raw (fn := Try.f31) rfl Try.func31 rfl rfl (Nat.le_of_ble_eq_true rfl) ?_)
    conv => whnf
    (refine ⟨by kernel_rfl, ?_⟩)
    conv => whnf
    with_reducible refine ⟨_, _, cD _ _, ?_⟩
    conv => whnf
    with_reducible refine ⟨_, _, cK _ _, ?_⟩
    conv => whnf
    with_reducible refine ⟨_, _, cN _ _, ?_⟩
    conv => whnf
    ((with_reducible cases z0 : nanoOk sn) <;> try exact Bool.noConfusion (Eq.trans (Eq.symm z0) hno))
    conv => whnf
    with_reducible refine ⟨_, _, cF _ _, ?_⟩
    conv => whnf
    (refine call_inline (fn := Try.f53) rfl Try.func53 rfl rfl ?_)
    conv => whnf
    (refine call_inline (fn := Try.f68) rfl Try.func68 rfl rfl ?_)
    conv => whnf
    with_reducible refine ⟨_, _, cA _ _ _, ?_⟩
    conv => whnf
    (refine ⟨by kernel_rfl, ?_⟩)
    conv => whnf
    (refine ⟨by kernel_rfl, ?_⟩)
    conv => whnf
    (refine ⟨by kernel_rfl, ?_⟩)
    conv => whnf
    rfl
set_option maxHeartbeats 8000000 in
theorem look_fine19 (m : Nat) (from_ : FuncId) (h : H) (ns : List NodeS) (t : Bool) (gen : Int) (c : CredS) (hc : c.ok) (a : ArgsS) (ha : a.ok) (ss sn : Int) (bo : Nat → Int) (hok : ∀ x ∈ ns, x.fit) (hlen : ns.length ≤ 1025) (hlen2 : ns ≠ []) (hK : ∀ (f : FuncId) (h : H), evCall TE (m + 29) f (.fn 7 [] []) [.agg [.sl (nodesA ns) ns.length t, .int .u32 gen]] h = some (.ret (.bool true), h)) (hp : a.proc = 19) (hno : nanoOk sn = true) (n : Int) (x : NodeS) (hn : thereS ns n = true) (hx : ns[n.toNat]? = some x) (hF : ∀ (f : FuncId) (h : H), evCall TE (m + 29) f (.fn 10 [] []) [.agg [.sl (nodesA ns) ns.length t, .int .u32 gen], a.h] h = some (.ret (.tup [.int .i64 n, .int .u32 0]), h)) : evCall TE (m + 30) from_ (.fn 9 [] []) [.agg [.sl (nodesA ns) ns.length t, .int .u32 gen], .agg (credL c), .agg (argL a), .agg (worldL ss sn bo)] h = some (.ret (.tup [.agg [.sl (nodesA (ns.map cloneN)) ns.length true, .int .u32 gen], .agg (ansA a.proc { stat := 0, ha := true, at_ := attrsS x n })]), h) := by
  have cT : ∀ (h : H), (evAll TE (m + 29)).1 9 (.fn 30 [] []) [.agg [.sl (nodesA ns) ns.length t, .int .u32 gen]] h = some (.ret (.agg [.sl (nodesA (ns.map cloneN)) ns.length true, .int .u32 gen]), h) := fun h => twinL_c (m + 27) h ns t gen hok hlen hlen2
  have cD : ∀ (f : FuncId) (h : H), (evAll TE (m + 29)).1 f (.fn 32 [] []) [.int .u32 a.proc] h = some (.ret (.bool (doesS a.proc)), h) := fun f h => does_c (m + 27) f h a.proc
  have cK : ∀ (f : FuncId) (h : H), (evAll TE (m + 29)).1 f (.fn 7 [] []) [.agg [.sl (nodesA ns) ns.length t, .int .u32 gen]] h = some (.ret (.bool true), h) := hK
  have cN : ∀ (f : FuncId) (h : H), (evAll TE (m + 29)).1 f (.fn 26 [] []) [.agg [.int .u32 ss, .int .u32 sn]] h = some (.ret (.bool (nanoOk sn)), h) := fun f h => times_c (m + 28) f h ss sn
  have hone1 := cred_one hc
  have hone2 := args_one ha
  have hone3 := work_one (ns := ns) (gen := gen) (ss := ss) (sn := sn) (bo := bo) hc ha
  have htop3 := work_top (ns := ns) (gen := gen) (ss := ss) (sn := sn) (bo := bo) hc ha
  clear hK
  have hcl : cleanL [.agg [.sl (nodesA ns) ns.length t, .int .u32 gen], .agg (credL c), .agg (argL a), .agg (worldL ss sn bo)] = true := by
    have h1 := row_clean hc.1
    have h2 := row_clean ha.h
    have h3 := row_clean ha.h2
    have h4 := row_clean ha.data
    simp [cleanL, AV.clean, credL, argL, worldL, h1, h2, h3, h4]
  have cF : ∀ (f : FuncId) (h : H), (evAll TE (m + 29)).1 f (.fn 10 [] []) [.agg [.sl (nodesA ns) ns.length t, .int .u32 gen], a.h] h = some (.ret (.tup [.int .i64 n, .int .u32 0]), h) := hF
  have hd : doesS a.proc = true := by rw [hp]; rfl
  have hm : thereS (ns.map cloneN) n = true := by rw [thereS_clone]; exact hn
  have hmx : (ns.map cloneN)[n.toNat]? = some (cloneN x) := by rw [List.getElem?_map, hx]; rfl
  have hml : (ns.map cloneN).length = ns.length := List.length_map ..
  have hxf := hok x (List.mem_of_getElem? hx)
  have hmo : (cloneN x).ok := ⟨bytesC_ok hxf.1.1, entsC_ok hxf.1.2⟩
  have hmv : nodesOk (.sl (nodesA (ns.map cloneN)) ns.length true) (ns.map cloneN) := .inr ⟨true, by rw [hml]⟩
  obtain ⟨hn1, hn2, _⟩ := there_facts hn
  have hn0 : 0 ≤ n := by omega
  have cA : ∀ (k : Nat) (f : FuncId) (h : H), (evAll TE (k + 2)).1 f (.fn 37 [] []) [.agg [.sl (nodesA (ns.map cloneN)) ns.length true, .int .u32 gen], .int .i64 n] h = some (.ret (.tup [.agg (attrsS x n), .bool true]), h) := fun k f h => attrs_some k f h _ _ hmv gen n (cloneN x) hm hmx hmo
  clear hF
  have hah := ha.h
  obtain ⟨p, hv, hl, nm, h2, h2l, nm2, st, hasG, gs, gn, bits, off, cnt, mx, stb, dat, datl, tg, how, kd, vf, ck⟩ := a
  dsimp only at hah cD cF hd hp hone2 hone3 htop3 hcl ⊢
  subst hp
  rcases hah with ⟨rfl, rfl⟩ | ⟨tt, rfl⟩
  · unfold attrsS at cA ⊢
    generalize IntKind.wrap .u64 (sizeS x) = sz at cA ⊢
    generalize IntKind.wrap .u32 x.links = lk at cA ⊢
    generalize IntKind.wrap .u64 n = idn at cA ⊢
    refine call_clean (fn := Try.f9) rfl Try.func9 rfl rfl hcl rfl rfl (Nat.le_of_ble_eq_true rfl) ?_
    conv => whnf
    (refine runK_ret (ev_box rfl hone1) ?_)
    conv => whnf
    (refine runK_ret (ev_box rfl hone2) ?_)
    conv => whnf
    with_reducible refine ⟨_, _, cT _, ?_⟩
    conv => whnf
    (refine ⟨by kernel_rfl, ?_⟩)
    conv => whnf
    (refine runK_ret (ev_box rfl hone3) ?_)
    conv => whnf
    (refine listK_of (if_pos (Nat.le_trans (Nat.le_of_eq htop3) (Nat.zero_le _))) ?_)
    conv => whnf
    (refine ⟨by kernel_rfl, ?_⟩)
    conv => whnf
    (refine call_raw (fn := Try.f31) rfl Try.func31 rfl rfl (Nat.le_of_ble_eq_true rfl) ?_)
    conv => whnf
    (refine ⟨by kernel_rfl, ?_⟩)
    conv => whnf
    with_reducible refine ⟨_, _, cD _ _, ?_⟩
    conv => whnf
    with_reducible refine ⟨_, _, cK _ _, ?_⟩
    conv => whnf
    with_reducible refine ⟨_, _, cN _ _, ?_⟩
    conv => whnf
    ((with_reducible cases z0 : nanoOk sn) <;> try exact Bool.noConfusion (Eq.trans (Eq.symm z0) hno))
    conv => whnf
    with_reducible refine ⟨_, _, cF _ _, ?_⟩
    conv => whnf
    (refine call_inline (fn := Try.f53) rfl Try.func53 rfl rfl ?_)
    conv => whnf
    (refine call_inline (fn := Try.f68) rfl Try.func68 rfl rfl ?_)
    conv => whnf
    with_reducible refine ⟨_, _, cA _ _ _, ?_⟩
    conv => whnf
    (refine ⟨by kernel_rfl, ?_⟩)
    conv => whnf
    (refine ⟨by kernel_rfl, ?_⟩)
    conv => whnf
    (refine ⟨by kernel_rfl, ?_⟩)
    conv => whnf
    rfl
  · unfold attrsS at cA ⊢
    generalize IntKind.wrap .u64 (sizeS x) = sz at cA ⊢
    generalize IntKind.wrap .u32 x.links = lk at cA ⊢
    generalize IntKind.wrap .u64 n = idn at cA ⊢
    refine call_clean (fn := Try.f9) rfl Try.func9 rfl rfl hcl rfl rfl (Nat.le_of_ble_eq_true rfl) ?_
    conv => whnf
    (refine runK_ret (ev_box rfl hone1) ?_)
    conv => whnf
    (refine runK_ret (ev_box rfl hone2) ?_)
    conv => whnf
    with_reducible refine ⟨_, _, cT _, ?_⟩
    conv => whnf
    (refine ⟨by kernel_rfl, ?_⟩)
    conv => whnf
    (refine runK_ret (ev_box rfl hone3) ?_)
    conv => whnf
    (refine listK_of (if_pos (Nat.le_trans (Nat.le_of_eq htop3) (Nat.zero_le _))) ?_)
    conv => whnf
    (refine ⟨by kernel_rfl, ?_⟩)
    conv => whnf
    (refine call_raw (fn := Try.f31) rfl Try.func31 rfl rfl (Nat.le_of_ble_eq_true rfl) ?_)
    conv => whnf
    (refine ⟨by kernel_rfl, ?_⟩)
    conv => whnf
    with_reducible refine ⟨_, _, cD _ _, ?_⟩
    conv => whnf
    with_reducible refine ⟨_, _, cK _ _, ?_⟩
    conv => whnf
    with_reducible refine ⟨_, _, cN _ _, ?_⟩
    conv => whnf
    ((with_reducible cases z0 : nanoOk sn) <;> try exact Bool.noConfusion (Eq.trans (Eq.symm z0) hno))
    conv => whnf
    with_reducible refine ⟨_, _, cF _ _, ?_⟩
    conv => whnf
    (refine call_inline (fn := Try.f53) rfl Try.func53 rfl rfl ?_)
    conv => whnf
    (refine call_inline (fn := Try.f68) rfl Try.func68 rfl rfl ?_)
    conv => whnf
    with_reducible refine ⟨_, _, cA _ _ _, ?_⟩
    conv => whnf
    (refine ⟨by kernel_rfl, ?_⟩)
    conv => whnf
    (refine ⟨by kernel_rfl, ?_⟩)
    conv => whnf
    (refine ⟨by kernel_rfl, ?_⟩)
    conv => whnf
    rfl
set_option maxHeartbeats 8000000 in
theorem look_fine20 (m : Nat) (from_ : FuncId) (h : H) (ns : List NodeS) (t : Bool) (gen : Int) (c : CredS) (hc : c.ok) (a : ArgsS) (ha : a.ok) (ss sn : Int) (bo : Nat → Int) (hok : ∀ x ∈ ns, x.fit) (hlen : ns.length ≤ 1025) (hlen2 : ns ≠ []) (hK : ∀ (f : FuncId) (h : H), evCall TE (m + 29) f (.fn 7 [] []) [.agg [.sl (nodesA ns) ns.length t, .int .u32 gen]] h = some (.ret (.bool true), h)) (hp : a.proc = 20) (hno : nanoOk sn = true) (n : Int) (x : NodeS) (hn : thereS ns n = true) (hx : ns[n.toNat]? = some x) (hF : ∀ (f : FuncId) (h : H), evCall TE (m + 29) f (.fn 10 [] []) [.agg [.sl (nodesA ns) ns.length t, .int .u32 gen], a.h] h = some (.ret (.tup [.int .i64 n, .int .u32 0]), h)) : evCall TE (m + 30) from_ (.fn 9 [] []) [.agg [.sl (nodesA ns) ns.length t, .int .u32 gen], .agg (credL c), .agg (argL a), .agg (worldL ss sn bo)] h = some (.ret (.tup [.agg [.sl (nodesA (ns.map cloneN)) ns.length true, .int .u32 gen], .agg (ansA a.proc { stat := 0, ha := true, at_ := attrsS x n })]), h) := by
  have cT : ∀ (h : H), (evAll TE (m + 29)).1 9 (.fn 30 [] []) [.agg [.sl (nodesA ns) ns.length t, .int .u32 gen]] h = some (.ret (.agg [.sl (nodesA (ns.map cloneN)) ns.length true, .int .u32 gen]), h) := fun h => twinL_c (m + 27) h ns t gen hok hlen hlen2
  have cD : ∀ (f : FuncId) (h : H), (evAll TE (m + 29)).1 f (.fn 32 [] []) [.int .u32 a.proc] h = some (.ret (.bool (doesS a.proc)), h) := fun f h => does_c (m + 27) f h a.proc
  have cK : ∀ (f : FuncId) (h : H), (evAll TE (m + 29)).1 f (.fn 7 [] []) [.agg [.sl (nodesA ns) ns.length t, .int .u32 gen]] h = some (.ret (.bool true), h) := hK
  have cN : ∀ (f : FuncId) (h : H), (evAll TE (m + 29)).1 f (.fn 26 [] []) [.agg [.int .u32 ss, .int .u32 sn]] h = some (.ret (.bool (nanoOk sn)), h) := fun f h => times_c (m + 28) f h ss sn
  have hone1 := cred_one hc
  have hone2 := args_one ha
  have hone3 := work_one (ns := ns) (gen := gen) (ss := ss) (sn := sn) (bo := bo) hc ha
  have htop3 := work_top (ns := ns) (gen := gen) (ss := ss) (sn := sn) (bo := bo) hc ha
  clear hK
  have hcl : cleanL [.agg [.sl (nodesA ns) ns.length t, .int .u32 gen], .agg (credL c), .agg (argL a), .agg (worldL ss sn bo)] = true := by
    have h1 := row_clean hc.1
    have h2 := row_clean ha.h
    have h3 := row_clean ha.h2
    have h4 := row_clean ha.data
    simp [cleanL, AV.clean, credL, argL, worldL, h1, h2, h3, h4]
  have cF : ∀ (f : FuncId) (h : H), (evAll TE (m + 29)).1 f (.fn 10 [] []) [.agg [.sl (nodesA ns) ns.length t, .int .u32 gen], a.h] h = some (.ret (.tup [.int .i64 n, .int .u32 0]), h) := hF
  have hd : doesS a.proc = true := by rw [hp]; rfl
  have hm : thereS (ns.map cloneN) n = true := by rw [thereS_clone]; exact hn
  have hmx : (ns.map cloneN)[n.toNat]? = some (cloneN x) := by rw [List.getElem?_map, hx]; rfl
  have hml : (ns.map cloneN).length = ns.length := List.length_map ..
  have hxf := hok x (List.mem_of_getElem? hx)
  have hmo : (cloneN x).ok := ⟨bytesC_ok hxf.1.1, entsC_ok hxf.1.2⟩
  have hmv : nodesOk (.sl (nodesA (ns.map cloneN)) ns.length true) (ns.map cloneN) := .inr ⟨true, by rw [hml]⟩
  obtain ⟨hn1, hn2, _⟩ := there_facts hn
  have hn0 : 0 ≤ n := by omega
  have cA : ∀ (k : Nat) (f : FuncId) (h : H), (evAll TE (k + 2)).1 f (.fn 37 [] []) [.agg [.sl (nodesA (ns.map cloneN)) ns.length true, .int .u32 gen], .int .i64 n] h = some (.ret (.tup [.agg (attrsS x n), .bool true]), h) := fun k f h => attrs_some k f h _ _ hmv gen n (cloneN x) hm hmx hmo
  clear hF
  have hah := ha.h
  obtain ⟨p, hv, hl, nm, h2, h2l, nm2, st, hasG, gs, gn, bits, off, cnt, mx, stb, dat, datl, tg, how, kd, vf, ck⟩ := a
  dsimp only at hah cD cF hd hp hone2 hone3 htop3 hcl ⊢
  subst hp
  rcases hah with ⟨rfl, rfl⟩ | ⟨tt, rfl⟩
  · unfold attrsS at cA ⊢
    generalize IntKind.wrap .u64 (sizeS x) = sz at cA ⊢
    generalize IntKind.wrap .u32 x.links = lk at cA ⊢
    generalize IntKind.wrap .u64 n = idn at cA ⊢
    refine call_clean (fn := Try.f9) rfl Try.func9 rfl rfl hcl rfl rfl (Nat.le_of_ble_eq_true rfl) ?_
    conv => whnf
    (refine runK_ret (ev_box rfl hone1) ?_)
    conv => whnf
    (refine runK_ret (ev_box rfl hone2) ?_)
    conv => whnf
    with_reducible refine ⟨_, _, cT _, ?_⟩
    conv => whnf
    (refine ⟨by kernel_rfl, ?_⟩)
    conv => whnf
    (refine runK_ret (ev_box rfl hone3) ?_)
    conv => whnf
    (refine listK_of (if_pos (Nat.le_trans (Nat.le_of_eq htop3) (Nat.zero_le _))) ?_)
    conv => whnf
    (refine ⟨by kernel_rfl, ?_⟩)
    conv => whnf
    (refine call_raw (fn := Try.f31) rfl Try.func31 rfl rfl (Nat.le_of_ble_eq_true rfl) ?_)
    conv => whnf
    (refine ⟨by kernel_rfl, ?_⟩)
    conv => whnf
    with_reducible refine ⟨_, _, cD _ _, ?_⟩
    conv => whnf
    with_reducible refine ⟨_, _, cK _ _, ?_⟩
    conv => whnf
    with_reducible refine ⟨_, _, cN _ _, ?_⟩
    conv => whnf
    ((with_reducible cases z0 : nanoOk sn) <;> try exact Bool.noConfusion (Eq.trans (Eq.symm z0) hno))
    conv => whnf
    with_reducible refine ⟨_, _, cF _ _, ?_⟩
    conv => whnf
    (refine call_inline (fn := Try.f53) rfl Try.func53 rfl rfl ?_)
    conv => whnf
    (refine call_inline (fn := Try.f68) rfl Try.func68 rfl rfl ?_)
    conv => whnf
    with_reducible refine ⟨_, _, cA _ _ _, ?_⟩
    conv => whnf
    (refine ⟨by kernel_rfl, ?_⟩)
    conv => whnf
    (refine ⟨by kernel_rfl, ?_⟩)
    conv => whnf
    (refine ⟨by kernel_rfl, ?_⟩)
    conv => whnf
    rfl
  · unfold attrsS at cA ⊢
    generalize IntKind.wrap .u64 (sizeS x) = sz at cA ⊢
    generalize IntKind.wrap .u32 x.links = lk at cA ⊢
    generalize IntKind.wrap .u64 n = idn at cA ⊢
    refine call_clean (fn := Try.f9) rfl Try.func9 rfl rfl hcl rfl rfl (Nat.le_of_ble_eq_true rfl) ?_
    conv => whnf
    (refine runK_ret (ev_box rfl hone1) ?_)
    conv => whnf
    (refine runK_ret (ev_box rfl hone2) ?_)
    conv => whnf
    with_reducible refine ⟨_, _, cT _, ?_⟩
    conv => whnf
    (refine ⟨by kernel_rfl, ?_⟩)
    conv => whnf
    (refine runK_ret (ev_box rfl hone3) ?_)
    conv => whnf
    (refine listK_of (if_pos (Nat.le_trans (Nat.le_of_eq htop3) (Nat.zero_le _))) ?_)
    conv => whnf
    (refine ⟨by kernel_rfl, ?_⟩)
    conv => whnf
    (refine call_raw (fn := Try.f31) rfl Try.func31 rfl rfl (Nat.le_of_ble_eq_true rfl) ?_)
    conv => whnf
    (refine ⟨by kernel_rfl, ?_⟩)
    conv => whnf
    with_reducible refine ⟨_, _, cD _ _, ?_⟩
    conv => whnf
    with_reducible refine ⟨_, _, cK _ _, ?_⟩
    conv => whnf
    with_reducible refine ⟨_, _, cN _ _, ?_⟩
    conv => whnf
    ((with_reducible cases z0 : nanoOk sn) <;> try exact Bool.noConfusion (Eq.trans (Eq.symm z0) hno))
    conv => whnf
    with_reducible refine ⟨_, _, cF _ _, ?_⟩
    conv => whnf
    (refine call_inline (fn := Try.f53) rfl Try.func53 rfl rfl ?_)
    conv => whnf
    (refine call_inline (fn := Try.f68) rfl Try.func68 rfl rfl ?_)
    conv => whnf
    with_reducible refine ⟨_, _, cA _ _ _, ?_⟩
    conv => whnf
    (refine ⟨by kernel_rfl, ?_⟩)
    conv => whnf
    (refine ⟨by kernel_rfl, ?_⟩)
    conv => whnf
    (refine ⟨by kernel_rfl, ?_⟩)
    conv => whnf
    rfl
set_option maxHeartbeats 8000000 in
theorem look_access (m : Nat) (from_ : FuncId) (h : H) (ns : List NodeS) (t : Bool) (gen : Int) (c : CredS) (hc : c.ok) (a : ArgsS) (ha : a.ok) (ss sn : Int) (bo : Nat → Int) (hok : ∀ x ∈ ns, x.fit) (hlen : ns.length ≤ 1025) (hlen2 : ns ≠ []) (hK : ∀ (f : FuncId) (h : H), evCall TE (m + 29) f (.fn 7 [] []) [.agg [.sl (nodesA ns) ns.length t, .int .u32 gen]] h = some (.ret (.bool true), h)) (hp : a.proc = 4) (hno : nanoOk sn = true) (n : Int) (x : NodeS) (hn : thereS ns n = true) (hx : ns[n.toNat]? = some x) (hF : ∀ (f : FuncId) (h : H), evCall TE (m + 29) f (.fn 10 [] []) [.agg [.sl (nodesA ns) ns.length t, .int .u32 gen], a.h] h = some (.ret (.tup [.int .i64 n, .int .u32 0]), h)) : evCall TE (m + 30) from_ (.fn 9 [] []) [.agg [.sl (nodesA ns) ns.length t, .int .u32 gen], .agg (credL c), .agg (argL a), .agg (worldL ss sn bo)] h = some (.ret (.tup [.agg [.sl (nodesA (ns.map cloneN)) ns.length true, .int .u32 gen], .agg (ansA a.proc { stat := 0, ha := true, at_ := attrsS x n, bits := bitsX x c a.bits })]), h) := by
  have cT : ∀ (h : H), (evAll TE (m + 29)).1 9 (.fn 30 [] []) [.agg [.sl (nodesA ns) ns.length t, .int .u32 gen]] h = some (.ret (.agg [.sl (nodesA (ns.map cloneN)) ns.length true, .int .u32 gen]), h) := fun h => twinL_c (m + 27) h ns t gen hok hlen hlen2
  have cD : ∀ (f : FuncId) (h : H), (evAll TE (m + 29)).1 f (.fn 32 [] []) [.int .u32 a.proc] h = some (.ret (.bool (doesS a.proc)), h) := fun f h => does_c (m + 27) f h a.proc
  have cK : ∀ (f : FuncId) (h : H), (evAll TE (m + 29)).1 f (.fn 7 [] []) [.agg [.sl (nodesA ns) ns.length t, .int .u32 gen]] h = some (.ret (.bool true), h) := hK
  have cN : ∀ (f : FuncId) (h : H), (evAll TE (m + 29)).1 f (.fn 26 [] []) [.agg [.int .u32 ss, .int .u32 sn]] h = some (.ret (.bool (nanoOk sn)), h) := fun f h => times_c (m + 28) f h ss sn
  have hone1 := cred_one hc
  have hone2 := args_one ha
  have hone3 := work_one (ns := ns) (gen := gen) (ss := ss) (sn := sn) (bo := bo) hc ha
  have htop3 := work_top (ns := ns) (gen := gen) (ss := ss) (sn := sn) (bo := bo) hc ha
  clear hK
  have hcl : cleanL [.agg [.sl (nodesA ns) ns.length t, .int .u32 gen], .agg (credL c), .agg (argL a), .agg (worldL ss sn bo)] = true := by
    have h1 := row_clean hc.1
    have h2 := row_clean ha.h
    have h3 := row_clean ha.h2
    have h4 := row_clean ha.data
    simp [cleanL, AV.clean, credL, argL, worldL, h1, h2, h3, h4]
  have cF : ∀ (f : FuncId) (h : H), (evAll TE (m + 29)).1 f (.fn 10 [] []) [.agg [.sl (nodesA ns) ns.length t, .int .u32 gen], a.h] h = some (.ret (.tup [.int .i64 n, .int .u32 0]), h) := hF
  have hd : doesS a.proc = true := by rw [hp]; rfl
  have hm : thereS (ns.map cloneN) n = true := by rw [thereS_clone]; exact hn
  have hmx : (ns.map cloneN)[n.toNat]? = some (cloneN x) := by rw [List.getElem?_map, hx]; rfl
  have hml : (ns.map cloneN).length = ns.length := List.length_map ..
  have hxf := hok x (List.mem_of_getElem? hx)
  have hmo : (cloneN x).ok := ⟨bytesC_ok hxf.1.1, entsC_ok hxf.1.2⟩
  have hmv : nodesOk (.sl (nodesA (ns.map cloneN)) ns.length true) (ns.map cloneN) := .inr ⟨true, by rw [hml]⟩
  obtain ⟨hn1, hn2, _⟩ := there_facts hn
  have hn0 : 0 ≤ n := by omega
  have cA : ∀ (k : Nat) (f : FuncId) (h : H), (evAll TE (k + 2)).1 f (.fn 37 [] []) [.agg [.sl (nodesA (ns.map cloneN)) ns.length true, .int .u32 gen], .int .i64 n] h = some (.ret (.tup [.agg (attrsS x n), .bool true]), h) := fun k f h => attrs_some k f h _ _ hmv gen n (cloneN x) hm hmx hmo
  clear hF
  have cB : ∀ (f : FuncId) (h : H), (evAll TE (m + 28)).1 f (.fn 71 [] []) [.agg [.sl (nodesA (ns.map cloneN)) ns.length true, .int .u32 gen], .int .i64 n, credA c, .int .u32 a.bits] h = some (.ret (.int .u32 (bitsX x c a.bits)), h) := fun f h => bits_some (m + 23) f h _ _ hmv gen n c a.bits hc (cloneN x) hm hmx hmo
  obtain ⟨bx, hbx⟩ : ∃ b, b = bitsX x c a.bits := ⟨_, rfl⟩
  rw [← hbx] at cB ⊢
  clear hbx
  have hah := ha.h
  obtain ⟨p, hv, hl, nm, h2, h2l, nm2, st, hasG, gs, gn, bits, off, cnt, mx, stb, dat, datl, tg, how, kd, vf, ck⟩ := a
  dsimp only at hah cB cD cF hd hp hone2 hone3 htop3 hcl ⊢
  have hcg := hc.1
  obtain ⟨cu, cg, cgs, cl⟩ := c
  unfold credA at cB
  dsimp only at hcg cB hone1 hone3 htop3 hcl ⊢
  subst hp
  rcases hcg with ⟨rfl, rfl⟩ | ⟨tc, rfl⟩ <;> rcases hah with ⟨rfl, rfl⟩ | ⟨tt, rfl⟩
  · unfold attrsS at cA ⊢
    generalize IntKind.wrap .u64 (sizeS x) = sz at cA ⊢
    generalize IntKind.wrap .u32 x.links = lk at cA ⊢
    generalize IntKind.wrap .u64 n = idn at cA ⊢
    refine call_clean (fn := Try.f9) rfl Try.func9 rfl rfl hcl rfl rfl (Nat.le_of_ble_eq_true rfl) ?_
    conv => whnf
    (refine runK_ret (ev_box rfl hone2) ?_)
    conv => whnf
    with_reducible refine ⟨_, _, cT _, ?_⟩
    conv => whnf
    (refine ⟨by kernel_rfl, ?_⟩)
    conv => whnf
    (refine runK_ret (ev_box rfl hone2) ?_)
    conv => whnf
    (refine listK_of (if_pos (Nat.le_trans (Nat.le_of_eq htop3) (Nat.zero_le _))) ?_)
    conv => whnf
    (refine ⟨by kernel_rfl, ?_⟩)
    conv => whnf
    (refine call_raw (fn := Try.f31) rfl Try.func31 rfl rfl (Nat.le_of_ble_eq_true rfl) ?_)
    conv => whnf
    (refine ⟨by kernel_rfl, ?_⟩)
    conv => whnf
    with_reducible refine ⟨_, _, cD _ _, ?_⟩
    conv => whnf
    with_reducible refine ⟨_, _, cK _ _, ?_⟩
    conv => whnf
    with_reducible refine ⟨_, _, cN _ _, ?_⟩
    conv => whnf
    ((with_reducible cases z0 : nanoOk sn) <;> try exact Bool.noConfusion (Eq.trans (Eq.symm z0) hno))
    conv => whnf
    with_reducible refine ⟨_, _, cF _ _, ?_⟩
    conv => whnf
    (refine call_inline (fn := Try.f55) rfl Try.func55 rfl rfl ?_)
    conv => whnf
    with_reducible refine ⟨_, _, cB _ _, ?_⟩
    conv => whnf
    (refine ⟨by kernel_rfl, ?_⟩)
    conv => whnf
    (refine ⟨by kernel_rfl, ?_⟩)
    conv => whnf
    (refine call_inline (fn := Try.f53) rfl Try.func53 rfl rfl ?_)
    conv => whnf
    (refine call_inline (fn := Try.f68) rfl Try.func68 rfl rfl ?_)
    conv => whnf
    with_reducible refine ⟨_, _, cA _ _ _, ?_⟩
    conv => whnf
    (refine ⟨by kernel_rfl, ?_⟩)
    conv => whnf
    (refine ⟨by kernel_rfl, ?_⟩)
    conv => whnf
    (refine ⟨by kernel_rfl, ?_⟩)
    conv => whnf
    rfl
  · unfold attrsS at cA ⊢
    generalize IntKind.wrap .u64 (sizeS x) = sz at cA ⊢
    generalize IntKind.wrap .u32 x.links = lk at cA ⊢
    generalize IntKind.wrap .u64 n = idn at cA ⊢
    refine call_clean (fn := Try.f9) rfl Try.func9 rfl rfl hcl rfl rfl (Nat.le_of_ble_eq_true rfl) ?_
    conv => whnf
    (refine runK_ret (ev_box rfl hone2) ?_)
    conv => whnf
    with_reducible refine ⟨_, _, cT _, ?_⟩
    conv => whnf
    (refine ⟨by kernel_rfl, ?_⟩)
    conv => whnf
    (refine runK_ret (ev_box rfl hone2) ?_)
    conv => whnf
    (refine listK_of (if_pos (Nat.le_trans (Nat.le_of_eq htop3) (Nat.zero_le _))) ?_)
    conv => whnf
    (refine ⟨by kernel_rfl, ?_⟩)
    conv => whnf
    (refine call_raw (fn := Try.f31) rfl Try.func31 rfl rfl (Nat.le_of_ble_eq_true rfl) ?_)
    conv => whnf
    (refine ⟨by kernel_rfl, ?_⟩)
    conv => whnf
    with_reducible refine ⟨_, _, cD _ _, ?_⟩
    conv => whnf
    with_reducible refine ⟨_, _, cK _ _, ?_⟩
    conv => whnf
    with_reducible refine ⟨_, _, cN _ _, ?_⟩
    conv => whnf
    ((with_reducible cases z0 : nanoOk sn) <;> try exact Bool.noConfusion (Eq.trans (Eq.symm z0) hno))
    conv => whnf
    with_reducible refine ⟨_, _, cF _ _, ?_⟩
    conv => whnf
    (refine call_inline (fn := Try.f55) rfl Try.func55 rfl rfl ?_)
    conv => whnf
    with_reducible refine ⟨_, _, cB _ _, ?_⟩
    conv => whnf
    (refine ⟨by kernel_rfl, ?_⟩)
    conv => whnf
    (refine ⟨by kernel_rfl, ?_⟩)
    conv => whnf
    (refine call_inline (fn := Try.f53) rfl Try.func53 rfl rfl ?_)
    conv => whnf
    (refine call_inline (fn := Try.f68) rfl Try.func68 rfl rfl ?_)
    conv => whnf
    with_reducible refine ⟨_, _, cA _ _ _, ?_⟩
    conv => whnf
    (refine ⟨by kernel_rfl, ?_⟩)
    conv => whnf
    (refine ⟨by kernel_rfl, ?_⟩)
    conv => whnf
    (refine ⟨by kernel_rfl, ?_⟩)
    conv => whnf
    rfl
  · unfold attrsS at cA ⊢
    generalize IntKind.wrap .u64 (sizeS x) = sz at cA ⊢
    generalize IntKind.wrap .u32 x.links = lk at cA ⊢
    generalize IntKind.wrap .u64 n = idn at cA ⊢
    refine call_clean (fn := Try.f9) rfl Try.func9 rfl rfl hcl rfl rfl (Nat.le_of_ble_eq_true rfl) ?_
    conv => whnf
    (refine runK_ret (ev_box rfl hone2) ?_)
    conv => whnf
    with_reducible refine ⟨_, _, cT _, ?_⟩
    conv => whnf
    (refine ⟨by kernel_rfl, ?_⟩)
    conv => whnf
    (refine runK_ret (ev_box rfl hone2) ?_)
    conv => whnf
    (refine listK_of (if_pos (Nat.le_trans (Nat.le_of_eq htop3) (Nat.zero_le _))) ?_)
    conv => whnf
    (refine ⟨by kernel_rfl, ?_⟩)
    conv => whnf
    (refine call_raw (fn := Try.f31) rfl Try.func31 rfl rfl (Nat.le_of_ble_eq_true rfl) ?_)
    conv => whnf
    (refine ⟨by kernel_rfl, ?_⟩)
    conv => whnf
    with_reducible refine ⟨_, _, cD _ _, ?_⟩
    conv => whnf
    with_reducible refine ⟨_, _, cK _ _, ?_⟩
    conv => whnf
    with_reducible refine ⟨_, _, cN _ _, ?_⟩
    conv => whnf
    ((with_reducible cases z0 : nanoOk sn) <;> try exact Bool.noConfusion (Eq.trans (Eq.symm z0) hno))
    conv => whnf
    with_reducible refine ⟨_, _, cF _ _, ?_⟩
    conv => whnf
    (refine call_inline (fn := Try.f55) rfl Try.func55 rfl rfl ?_)
    conv => whnf
    with_reducible refine ⟨_, _, cB _ _, ?_⟩
    conv => whnf
    (refine ⟨by kernel_rfl, ?_⟩)
    conv => whnf
    (refine ⟨by kernel_rfl, ?_⟩)
    conv => whnf
    (refine call_inline (fn := Try.f53) rfl Try.func53 rfl rfl ?_)
    conv => whnf
    (refine call_inline (fn := Try.f68) rfl Try.func68 rfl rfl ?_)
    conv => whnf
    with_reducible refine ⟨_, _, cA _ _ _, ?_⟩
    conv => whnf
    (refine ⟨by kernel_rfl, ?_⟩)
    conv => whnf
    (refine ⟨by kernel_rfl, ?_⟩)
    conv => whnf
    (refine ⟨by kernel_rfl, ?_⟩)
    conv => whnf
    rfl
  · unfold attrsS at cA ⊢
    generalize IntKind.wrap .u64 (sizeS x) = sz at cA ⊢
    generalize IntKind.wrap .u32 x.links = lk at cA ⊢
    generalize IntKind.wrap .u64 n = idn at cA ⊢
    refine call_clean (fn := Try.f9) rfl Try.func9 rfl rfl hcl rfl rfl (Nat.le_of_ble_eq_true rfl) ?_
    conv => whnf
    (refine runK_ret (ev_box rfl hone2) ?_)
    conv => whnf
    with_reducible refine ⟨_, _, cT _, ?_⟩
    conv => whnf
    (refine ⟨by kernel_rfl, ?_⟩)
    conv => whnf
    (refine runK_ret (ev_box rfl hone2) ?_)
    conv => whnf
    (refine listK_of (if_pos (Nat.le_trans (Nat.le_of_eq htop3) (Nat.zero_le _))) ?_)
    conv => whnf
    (refine ⟨by kernel_rfl, ?_⟩)
    conv => whnf
    (refine call_raw (fn := Try.f31) rfl Try.func31 rfl rfl (Nat.le_of_ble_eq_true rfl) ?_)
    conv => whnf
    (refine ⟨by kernel_rfl, ?_⟩)
    conv => whnf
    with_reducible refine ⟨_, _, cD _ _, ?_⟩
    conv => whnf
    with_reducible refine ⟨_, _, cK _ _, ?_⟩
    conv => whnf
    with_reducible refine ⟨_, _, cN _ _, ?_⟩
    conv => whnf
    ((with_reducible cases z0 : nanoOk sn) <;> try exact Bool.noConfusion (Eq.trans (Eq.symm z0) hno))
    conv => whnf
    with_reducible refine ⟨_, _, cF _ _, ?_⟩
    conv => whnf
    (refine call_inline (fn := Try.f55) rfl Try.func55 rfl rfl ?_)
    conv => whnf
    with_reducible refine ⟨_, _, cB _ _, ?_⟩
    conv => whnf
    (refine ⟨by kernel_rfl, ?_⟩)
    conv => whnf
    (refine ⟨by kernel_rfl, ?_⟩)
    conv => whnf
    (refine call_inline (fn := Try.f53) rfl Try.func53 rfl rfl ?_)
    conv => whnf
    (refine call_inline (fn := Try.f68) rfl Try.func68 rfl rfl ?_)
    conv => whnf
    with_reducible refine ⟨_, _, cA _ _ _, ?_⟩
    conv => whnf
    (refine ⟨by kernel_rfl, ?_⟩)
    conv => whnf
    (refine ⟨by kernel_rfl, ?_⟩)
    conv => whnf
    (refine ⟨by kernel_rfl, ?_⟩)
    conv => whnf
    rfl
set_option maxHeartbeats 8000000 in
theorem look_readlink_not (m : Nat) (from_ : FuncId) (h : H) (ns : List NodeS) (t : Bool) (gen : Int) (c : CredS) (hc : c.ok) (a : ArgsS) (ha : a.ok) (ss sn : Int) (bo : Nat → Int) (hok : ∀ x ∈ ns, x.fit) (hlen : ns.length ≤ 1025) (hlen2 : ns ≠ []) (hK : ∀ (f : FuncId) (h : H), evCall TE (m + 29) f (.fn 7 [] []) [.agg [.sl (nodesA ns) ns.length t, .int .u32 gen]] h = some (.ret (.bool true), h)) (hp : a.proc = 5) (hno : nanoOk sn = true) (n : Int) (x : NodeS) (hn : thereS ns n = true) (hx : ns[n.toNat]? = some x) (hF : ∀ (f : FuncId) (h : H), evCall TE (m + 29) f (.fn 10 [] []) [.agg [.sl (nodesA ns) ns.length t, .int .u32 gen], a.h] h = some (.ret (.tup [.int .i64 n, .int .u32 0]), h)) (hk : (x.kind != 5) = true) : evCall TE (m + 30) from_ (.fn 9 [] []) [.agg [.sl (nodesA ns) ns.length t, .int .u32 gen], .agg (credL c), .agg (argL a), .agg (worldL ss sn bo)] h = some (.ret (.tup [.agg [.sl (nodesA (ns.map cloneN)) ns.length true, .int .u32 gen], .agg (ansA a.proc { stat := 22, ha := true, at_ := attrsS x n })]), h) := by
  have cT : ∀ (h : H), (evAll TE (m + 29)).1 9 (.fn 30 [] []) [.agg [.sl (nodesA ns) ns.length t, .int .u32 gen]] h = some (.ret (.agg [.sl (nodesA (ns.map cloneN)) ns.length true, .int .u32 gen]), h) := fun h => twinL_c (m + 27) h ns t gen hok hlen hlen2
  have cD : ∀ (f : FuncId) (h : H), (evAll TE (m + 29)).1 f (.fn 32 [] []) [.int .u32 a.proc] h = some (.ret (.bool (doesS a.proc)), h) := fun f h => does_c (m + 27) f h a.proc
  have cK : ∀ (f : FuncId) (h : H), (evAll TE (m + 29)).1 f (.fn 7 [] []) [.agg [.sl (nodesA ns) ns.length t, .int .u32 gen]] h = some (.ret (.bool true), h) := hK
  have cN : ∀ (f : FuncId) (h : H), (evAll TE (m + 29)).1 f (.fn 26 [] []) [.agg [.int .u32 ss, .int .u32 sn]] h = some (.ret (.bool (nanoOk sn)), h) := fun f h => times_c (m + 28) f h ss sn
  have hone1 := cred_one hc
  have hone2 := args_one ha
  have hone3 := work_one (ns := ns) (gen := gen) (ss := ss) (sn := sn) (bo := bo) hc ha
  have htop3 := work_top (ns := ns) (gen := gen) (ss := ss) (sn := sn) (bo := bo) hc ha
  clear hK
  have hcl : cleanL [.agg [.sl (nodesA ns) ns.length t, .int .u32 gen], .agg (credL c), .agg (argL a), .agg (worldL ss sn bo)] = true := by
    have h1 := row_clean hc.1
    have h2 := row_clean ha.h
    have h3 := row_clean ha.h2
    have h4 := row_clean ha.data
    simp [cleanL, AV.clean, credL, argL, worldL, h1, h2, h3, h4]
  have cF : ∀ (f : FuncId) (h : H), (evAll TE (m + 29)).1 f (.fn 10 [] []) [.agg [.sl (nodesA ns) ns.length t, .int .u32 gen], a.h] h = some (.ret (.tup [.int .i64 n, .int .u32 0]), h) := hF
  have hd : doesS a.proc = true := by rw [hp]; rfl
  have hm : thereS (ns.map cloneN) n = true := by rw [thereS_clone]; exact hn
  have hmx : (ns.map cloneN)[n.toNat]? = some (cloneN x) := by rw [List.getElem?_map, hx]; rfl
  have hml : (ns.map cloneN).length = ns.length := List.length_map ..
  have hxf := hok x (List.mem_of_getElem? hx)
  have hmo : (cloneN x).ok := ⟨bytesC_ok hxf.1.1, entsC_ok hxf.1.2⟩
  have hmv : nodesOk (.sl (nodesA (ns.map cloneN)) ns.length true) (ns.map cloneN) := .inr ⟨true, by rw [hml]⟩
  obtain ⟨hn1, hn2, _⟩ := there_facts hn
  have hn0 : 0 ≤ n := by omega
  have cA : ∀ (k : Nat) (f : FuncId) (h : H), (evAll TE (k + 2)).1 f (.fn 37 [] []) [.agg [.sl (nodesA (ns.map cloneN)) ns.length true, .int .u32 gen], .int .i64 n] h = some (.ret (.tup [.agg (attrsS x n), .bool true]), h) := fun k f h => attrs_some k f h _ _ hmv gen n (cloneN x) hm hmx hmo
  clear hF
  have hah := ha.h
  obtain ⟨p, hv, hl, nm, h2, h2l, nm2, st, hasG, gs, gn, bits, off, cnt, mx, stb, dat, datl, tg, how, kd, vf, ck⟩ := a
  dsimp only at hah cD cF hd hp hone2 hone3 htop3 hcl ⊢
  subst hp
  rcases hah with ⟨rfl, rfl⟩ | ⟨tt, rfl⟩
  · unfold attrsS at cA ⊢
    generalize IntKind.wrap .u64 (sizeS x) = sz at cA ⊢
    generalize IntKind.wrap .u32 x.links = lk at cA ⊢
    generalize IntKind.wrap .u64 n = idn at cA ⊢
    refine call_clean (fn := Try.f9) rfl Try.func9 rfl rfl hcl rfl rfl (Nat.le_of_ble_eq_true rfl) ?_
    conv => whnf
    (refine runK_ret (ev_box rfl hone1) ?_)
    conv => whnf
    (refine runK_ret (ev_box rfl hone2) ?_)
    conv => whnf
    with_reducible refine ⟨_, _, cT _, ?_⟩
    conv => whnf
    (refine ⟨by kernel_rfl, ?_⟩)
    conv => whnf
    (refine runK_ret (ev_box rfl hone3) ?_)
    conv => whnf
    (refine listK_of (if_pos (Nat.le_trans (Nat.le_of_eq htop3) (Nat.zero_le _))) ?_)
    conv => whnf
    (refine ⟨by kernel_rfl, ?_⟩)
    conv => whnf
    (refine call_raw (fn := Try.f31) rfl Try.func31 rfl rfl (Nat.le_of_ble_eq_true rfl) ?_)
    conv => whnf
    (refine ⟨by kernel_rfl, ?_⟩)
    conv => whnf
    with_reducible refine ⟨_, _, cD _ _, ?_⟩
    conv => whnf
    with_reducible refine ⟨_, _, cK _ _, ?_⟩
    conv => whnf
    with_reducible refine ⟨_, _, cN _ _, ?_⟩
    conv => whnf
    ((with_reducible cases z0 : nanoOk sn) <;> try exact Bool.noConfusion (Eq.trans (Eq.symm z0) hno))
    conv => whnf
    with_reducible refine ⟨_, _, cF _ _, ?_⟩
    conv => whnf
    (refine call_inline (fn := Try.f56) rfl Try.func56 rfl rfl ?_)
    conv => whnf
    (refine call_inline (fn := Try.f68) rfl Try.func68 rfl rfl ?_)
    conv => whnf
    with_reducible refine ⟨_, _, cA _ _ _, ?_⟩
    conv => whnf
    (refine ⟨by kernel_rfl, ?_⟩)
    conv => whnf
    (refine ⟨by kernel_rfl, ?_⟩)
    conv => whnf
    (refine call_inline (fn := Try.f69) rfl Try.func69 rfl rfl ?_)
    conv => whnf
    (refine runK_ret (ev_indexSl (sz := 25) rfl rfl rfl rfl hn0 hn2) ?_)
    conv => whnf
    (refine runK_ret (ev_loadV (z := 1) (v := .int .u32 x.kind) rfl rfl rfl ((nodesA_cell hmx 0 (by decide)).trans rfl)) ?_)
    conv => whnf
    (refine ⟨by kernel_rfl, ?_⟩)
    conv => whnf
    ((with_reducible cases z1 : x.kind != Int.ofNat 5) <;> try exact Bool.noConfusion (Eq.trans (Eq.symm z1) hk))
    conv => whnf
    (refine ⟨by kernel_rfl, ?_⟩)
    conv => whnf
    rfl
  · unfold attrsS at cA ⊢
    generalize IntKind.wrap .u64 (sizeS x) = sz at cA ⊢
    generalize IntKind.wrap .u32 x.links = lk at cA ⊢
    generalize IntKind.wrap .u64 n = idn at cA ⊢
    refine call_clean (fn := Try.f9) rfl Try.func9 rfl rfl hcl rfl rfl (Nat.le_of_ble_eq_true rfl) ?_
    conv => whnf
    (refine runK_ret (ev_box rfl hone1) ?_)
    conv => whnf
    (refine runK_ret (ev_box rfl hone2) ?_)
    conv => whnf
    with_reducible refine ⟨_, _, cT _, ?_⟩
    conv => whnf
    (refine ⟨by kernel_rfl, ?_⟩)
    conv => whnf
    (refine runK_ret (ev_box rfl hone3) ?_)
    conv => whnf
    (refine listK_of (if_pos (Nat.le_trans (Nat.le_of_eq htop3) (Nat.zero_le _))) ?_)
    conv => whnf
    (refine ⟨by kernel_rfl, ?_⟩)
    conv => whnf
    (refine call_raw (fn := Try.f31) rfl Try.func31 rfl rfl (Nat.le_of_ble_eq_true rfl) ?_)
    conv => whnf
    (refine ⟨by kernel_rfl, ?_⟩)
    conv => whnf
    with_reducible refine ⟨_, _, cD _ _, ?_⟩
    conv => whnf
    with_reducible refine ⟨_, _, cK _ _, ?_⟩
    conv => whnf
    with_reducible refine ⟨_, _, cN _ _, ?_⟩
    conv => whnf
    ((with_reducible cases z0 : nanoOk sn) <;> try exact Bool.noConfusion (Eq.trans (Eq.symm z0) hno))
    conv => whnf
    with_reducible refine ⟨_, _, cF _ _, ?_⟩
    conv => whnf
    (refine call_inline (fn := Try.f56) rfl Try.func56 rfl rfl ?_)
    conv => whnf
    (refine call_inline (fn := Try.f68) rfl Try.func68 rfl rfl ?_)
    conv => whnf
    with_reducible refine ⟨_, _, cA _ _ _, ?_⟩
    conv => whnf
    (refine ⟨by kernel_rfl, ?_⟩)
    conv => whnf
    (refine ⟨by kernel_rfl, ?_⟩)
    conv => whnf
    (refine call_inline (fn := Try.f69) rfl Try.func69 rfl rfl ?_)
    conv => whnf
    (refine runK_ret (ev_indexSl (sz := 25) rfl rfl rfl rfl hn0 hn2) ?_)
    conv => whnf
    (refine runK_ret (ev_loadV (z := 1) (v := .int .u32 x.kind) rfl rfl rfl ((nodesA_cell hmx 0 (by decide)).trans rfl)) ?_)
    conv => whnf
    (refine ⟨by kernel_rfl, ?_⟩)
    conv => whnf
    ((with_reducible cases z1 : x.kind != Int.ofNat 5) <;> try exact Bool.noConfusion (Eq.trans (Eq.symm z1) hk))
    conv => whnf
    (refine ⟨by kernel_rfl, ?_⟩)
    conv => whnf
    rfl
set_option maxHeartbeats 8000000 in
theorem look_readlink (m : Nat) (from_ : FuncId) (h : H) (ns : List NodeS) (t : Bool) (gen : Int) (c : CredS) (hc : c.ok) (a : ArgsS) (ha : a.ok) (ss sn : Int) (bo : Nat → Int) (hok : ∀ x ∈ ns, x.fit) (hlen : ns.length ≤ 1025) (hlen2 : ns ≠ []) (hK : ∀ (f : FuncId) (h : H), evCall TE (m + 29) f (.fn 7 [] []) [.agg [.sl (nodesA ns) ns.length t, .int .u32 gen]] h = some (.ret (.bool true), h)) (hp : a.proc = 5) (hno : nanoOk sn = true) (n : Int) (x : NodeS) (hn : thereS ns n = true) (hx : ns[n.toNat]? = some x) (hF : ∀ (f : FuncId) (h : H), evCall TE (m + 29) f (.fn 10 [] []) [.agg [.sl (nodesA ns) ns.length t, .int .u32 gen], a.h] h = some (.ret (.tup [.int .i64 n, .int .u32 0]), h)) (hk : (x.kind != 5) = false) : evCall TE (m + 30) from_ (.fn 9 [] []) [.agg [.sl (nodesA ns) ns.length t, .int .u32 gen], .agg (credL c), .agg (argL a), .agg (worldL ss sn bo)] h = some (.ret (.tup [.agg [.sl (nodesA (ns.map cloneN)) ns.length true, .int .u32 gen], .agg (ansA a.proc { stat := 0, ha := true, at_ := attrsS x n, target := x.target })]), h) := by
  have cT : ∀ (h : H), (evAll TE (m + 29)).1 9 (.fn 30 [] []) [.agg [.sl (nodesA ns) ns.length t, .int .u32 gen]] h = some (.ret (.agg [.sl (nodesA (ns.map cloneN)) ns.length true, .int .u32 gen]), h) := fun h => twinL_c (m + 27) h ns t gen hok hlen hlen2
  have cD : ∀ (f : FuncId) (h : H), (evAll TE (m + 29)).1 f (.fn 32 [] []) [.int .u32 a.proc] h = some (.ret (.bool (doesS a.proc)), h) := fun f h => does_c (m + 27) f h a.proc
  have cK : ∀ (f : FuncId) (h : H), (evAll TE (m + 29)).1 f (.fn 7 [] []) [.agg [.sl (nodesA ns) ns.length t, .int .u32 gen]] h = some (.ret (.bool true), h) := hK
  have cN : ∀ (f : FuncId) (h : H), (evAll TE (m + 29)).1 f (.fn 26 [] []) [.agg [.int .u32 ss, .int .u32 sn]] h = some (.ret (.bool (nanoOk sn)), h) := fun f h => times_c (m + 28) f h ss sn
  have hone1 := cred_one hc
  have hone2 := args_one ha
  have hone3 := work_one (ns := ns) (gen := gen) (ss := ss) (sn := sn) (bo := bo) hc ha
  have htop3 := work_top (ns := ns) (gen := gen) (ss := ss) (sn := sn) (bo := bo) hc ha
  clear hK
  have hcl : cleanL [.agg [.sl (nodesA ns) ns.length t, .int .u32 gen], .agg (credL c), .agg (argL a), .agg (worldL ss sn bo)] = true := by
    have h1 := row_clean hc.1
    have h2 := row_clean ha.h
    have h3 := row_clean ha.h2
    have h4 := row_clean ha.data
    simp [cleanL, AV.clean, credL, argL, worldL, h1, h2, h3, h4]
  have cF : ∀ (f : FuncId) (h : H), (evAll TE (m + 29)).1 f (.fn 10 [] []) [.agg [.sl (nodesA ns) ns.length t, .int .u32 gen], a.h] h = some (.ret (.tup [.int .i64 n, .int .u32 0]), h) := hF
  have hd : doesS a.proc = true := by rw [hp]; rfl
  have hm : thereS (ns.map cloneN) n = true := by rw [thereS_clone]; exact hn
  have hmx : (ns.map cloneN)[n.toNat]? = some (cloneN x) := by rw [List.getElem?_map, hx]; rfl
  have hml : (ns.map cloneN).length = ns.length := List.length_map ..
  have hxf := hok x (List.mem_of_getElem? hx)
  have hmo : (cloneN x).ok := ⟨bytesC_ok hxf.1.1, entsC_ok hxf.1.2⟩
  have hmv : nodesOk (.sl (nodesA (ns.map cloneN)) ns.length true) (ns.map cloneN) := .inr ⟨true, by rw [hml]⟩
  obtain ⟨hn1, hn2, _⟩ := there_facts hn
  have hn0 : 0 ≤ n := by omega
  have cA : ∀ (k : Nat) (f : FuncId) (h : H), (evAll TE (k + 2)).1 f (.fn 37 [] []) [.agg [.sl (nodesA (ns.map cloneN)) ns.length true, .int .u32 gen], .int .i64 n] h = some (.ret (.tup [.agg (attrsS x n), .bool true]), h) := fun k f h => attrs_some k f h _ _ hmv gen n (cloneN x) hm hmx hmo
  clear hF
  have hah := ha.h
  obtain ⟨p, hv, hl, nm, h2, h2l, nm2, st, hasG, gs, gn, bits, off, cnt, mx, stb, dat, datl, tg, how, kd, vf, ck⟩ := a
  dsimp only at hah cD cF hd hp hone2 hone3 htop3 hcl ⊢
  subst hp
  rcases hah with ⟨rfl, rfl⟩ | ⟨tt, rfl⟩
  · unfold attrsS at cA ⊢
    generalize IntKind.wrap .u64 (sizeS x) = sz at cA ⊢
    generalize IntKind.wrap .u32 x.links = lk at cA ⊢
    generalize IntKind.wrap .u64 n = idn at cA ⊢
    refine call_clean (fn := Try.f9) rfl Try.func9 rfl rfl hcl rfl rfl (Nat.le_of_ble_eq_true rfl) ?_
    conv => whnf
    (refine runK_ret (ev_box rfl hone1) ?_)
    conv => whnf
    (refine runK_ret (ev_box rfl hone2) ?_)
    conv => whnf
    with_reducible refine ⟨_, _, cT _, ?_⟩
    conv => whnf
    (refine ⟨by kernel_rfl, ?_⟩)
    conv => whnf
    (refine runK_ret (ev_box rfl hone3) ?_)
    conv => whnf
    (refine listK_of (if_pos (Nat.le_trans (Nat.le_of_eq htop3) (Nat.zero_le _))) ?_)
    conv => whnf
    (refine ⟨by kernel_rfl, ?_⟩)
    conv => whnf
    (refine call_raw (fn := Try.f31) rfl Try.func31 rfl rfl (Nat.le_of_ble_eq_true rfl) ?_)
    conv => whnf
    (refine ⟨by kernel_rfl, ?_⟩)
    conv => whnf
    with_reducible refine ⟨_, _, cD _ _, ?_⟩
    conv => whnf
    with_reducible refine ⟨_, _, cK _ _, ?_⟩
    conv => whnf
    with_reducible refine ⟨_, _, cN _ _, ?_⟩
    conv => whnf
    ((with_reducible cases z0 : nanoOk sn) <;> try exact Bool.noConfusion (Eq.trans (Eq.symm z0) hno))
    conv => whnf
    with_reducible refine ⟨_, _, cF _ _, ?_⟩
    conv => whnf
    (refine call_inline (fn := Try.f56) rfl Try.func56 rfl rfl ?_)
    conv => whnf
    (refine call_inline (fn := Try.f68) rfl Try.func68 rfl rfl ?_)
    conv => whnf
    with_reducible refine ⟨_, _, cA _ _ _, ?_⟩
    conv => whnf
    (refine ⟨by kernel_rfl, ?_⟩)
    conv => whnf
    (refine ⟨by kernel_rfl, ?_⟩)
    conv => whnf
    (refine call_inline (fn := Try.f69) rfl Try.func69 rfl rfl ?_)
    conv => whnf
    (refine runK_ret (ev_indexSl (sz := 25) rfl rfl rfl rfl hn0 hn2) ?_)
    conv => whnf
    (refine runK_ret (ev_loadV (z := 1) (v := .int .u32 x.kind) rfl rfl rfl ((nodesA_cell hmx 0 (by decide)).trans rfl)) ?_)
    conv => whnf
    (refine ⟨by kernel_rfl, ?_⟩)
    conv => whnf
    ((with_reducible cases z1 : x.kind != Int.ofNat 5) <;> try exact Bool.noConfusion (Eq.trans (Eq.symm z1) hk))
    conv => whnf
    (refine runK_ret (ev_indexSl (sz := 25) rfl rfl rfl rfl hn0 hn2) ?_)
    conv => whnf
    (refine runK_ret (ev_loadV (z := 1) (v := .str x.target) rfl rfl rfl ((nodesA_cell hmx 21 (by decide)).trans rfl)) ?_)
    conv => whnf
    (refine ⟨by kernel_rfl, ?_⟩)
    conv => whnf
    (refine ⟨by kernel_rfl, ?_⟩)
    conv => whnf
    rfl
  · unfold attrsS at cA ⊢
    generalize IntKind.wrap .u64 (sizeS x) = sz at cA ⊢
    generalize IntKind.wrap .u32 x.links = lk at cA ⊢
    generalize IntKind.wrap .u64 n = idn at cA ⊢
    refine call_clean (fn := Try.f9) rfl Try.func9 rfl rfl hcl rfl rfl (Nat.le_of_ble_eq_true rfl) ?_
    conv => whnf
    (refine runK_ret (ev_box rfl hone1) ?_)
    conv => whnf
    (refine runK_ret (ev_box rfl hone2) ?_)
    conv => whnf
    with_reducible refine ⟨_, _, cT _, ?_⟩
    conv => whnf
    (refine ⟨by kernel_rfl, ?_⟩)
    conv => whnf
    (refine runK_ret (ev_box rfl hone3) ?_)
    conv => whnf
    (refine listK_of (if_pos (Nat.le_trans (Nat.le_of_eq htop3) (Nat.zero_le _))) ?_)
    conv => whnf
    (refine ⟨by kernel_rfl, ?_⟩)
    conv => whnf
    (refine call_raw (fn := Try.f31) rfl Try.func31 rfl rfl (Nat.le_of_ble_eq_true rfl) ?_)
    conv => whnf
    (refine ⟨by kernel_rfl, ?_⟩)
    conv => whnf
    with_reducible refine ⟨_, _, cD _ _, ?_⟩
    conv => whnf
    with_reducible refine ⟨_, _, cK _ _, ?_⟩
    conv => whnf
    with_reducible refine ⟨_, _, cN _ _, ?_⟩
    conv => whnf
    ((with_reducible cases z0 : nanoOk sn) <;> try exact Bool.noConfusion (Eq.trans (Eq.symm z0) hno))
    conv => whnf
    with_reducible refine ⟨_, _, cF _ _, ?_⟩
    conv => whnf
    (refine call_inline (fn := Try.f56) rfl Try.func56 rfl rfl ?_)
    conv => whnf
    (refine call_inline (fn := Try.f68) rfl Try.func68 rfl rfl ?_)
    conv => whnf
    with_reducible refine ⟨_, _, cA _ _ _, ?_⟩
    conv => whnf
    (refine ⟨by kernel_rfl, ?_⟩)
    conv => whnf
    (refine ⟨by kernel_rfl, ?_⟩)
    conv => whnf
    (refine call_inline (fn := Try.f69) rfl Try.func69 rfl rfl ?_)
    conv => whnf
    (refine runK_ret (ev_indexSl (sz := 25) rfl rfl rfl rfl hn0 hn2) ?_)
    conv => whnf
    (refine runK_ret (ev_loadV (z := 1) (v := .int .u32 x.kind) rfl rfl rfl ((nodesA_cell hmx 0 (by decide)).trans rfl)) ?_)
    conv => whnf
    (refine ⟨by kernel_rfl, ?_⟩)
    conv => whnf
    ((with_reducible cases z1 : x.kind != Int.ofNat 5) <;> try exact Bool.noConfusion (Eq.trans (Eq.symm z1) hk))
    conv => whnf
    (refine runK_ret (ev_indexSl (sz := 25) rfl rfl rfl rfl hn0 hn2) ?_)
    conv => whnf
    (refine runK_ret (ev_loadV (z := 1) (v := .str x.target) rfl rfl rfl ((nodesA_cell hmx 21 (by decide)).trans rfl)) ?_)
    conv => whnf
    (refine ⟨by kernel_rfl, ?_⟩)
    conv => whnf
    (refine ⟨by kernel_rfl, ?_⟩)
    conv => whnf
    rfl
set_option maxHeartbeats 8000000 in
theorem look_commit_dir (m : Nat) (from_ : FuncId) (h : H) (ns : List NodeS) (t : Bool) (gen : Int) (c : CredS) (hc : c.ok) (a : ArgsS) (ha : a.ok) (ss sn : Int) (bo : Nat → Int) (hok : ∀ x ∈ ns, x.fit) (hlen : ns.length ≤ 1025) (hlen2 : ns ≠ []) (hK : ∀ (f : FuncId) (h : H), evCall TE (m + 29) f (.fn 7 [] []) [.agg [.sl (nodesA ns) ns.length t, .int .u32 gen]] h = some (.ret (.bool true), h)) (hp : a.proc = 21) (hno : nanoOk sn = true) (n : Int) (x : NodeS) (hn : thereS ns n = true) (hx : ns[n.toNat]? = some x) (hF : ∀ (f : FuncId) (h : H), evCall TE (m + 29) f (.fn 10 [] []) [.agg [.sl (nodesA ns) ns.length t, .int .u32 gen], a.h] h = some (.ret (.tup [.int .i64 n, .int .u32 0]), h)) (hk : (x.kind == 2) = true) : evCall TE (m + 30) from_ (.fn 9 [] []) [.agg [.sl (nodesA ns) ns.length t, .int .u32 gen], .agg (credL c), .agg (argL a), .agg (worldL ss sn bo)] h = some (.ret (.tup [.agg [.sl (nodesA (ns.map cloneN)) ns.length true, .int .u32 gen], .agg (ansA a.proc { stat := 21, one := weakA x x n })]), h) := by
  have cT : ∀ (h : H), (evAll TE (m + 29)).1 9 (.fn 30 [] []) [.agg [.sl (nodesA ns) ns.length t, .int .u32 gen]] h = some (.ret (.agg [.sl (nodesA (ns.map cloneN)) ns.length true, .int .u32 gen]), h) := fun h => twinL_c (m + 27) h ns t gen hok hlen hlen2
  have cD : ∀ (f : FuncId) (h : H), (evAll TE (m + 29)).1 f (.fn 32 [] []) [.int .u32 a.proc] h = some (.ret (.bool (doesS a.proc)), h) := fun f h => does_c (m + 27) f h a.proc
  have cK : ∀ (f : FuncId) (h : H), (evAll TE (m + 29)).1 f (.fn 7 [] []) [.agg [.sl (nodesA ns) ns.length t, .int .u32 gen]] h = some (.ret (.bool true), h) := hK
  have cN : ∀ (f : FuncId) (h : H), (evAll TE (m + 29)).1 f (.fn 26 [] []) [.agg [.int .u32 ss, .int .u32 sn]] h = some (.ret (.bool (nanoOk sn)), h) := fun f h => times_c (m + 28) f h ss sn
  have hone1 := cred_one hc
  have hone2 := args_one ha
  have hone3 := work_one (ns := ns) (gen := gen) (ss := ss) (sn := sn) (bo := bo) hc ha
  have htop3 := work_top (ns := ns) (gen := gen) (ss := ss) (sn := sn) (bo := bo) hc ha
  clear hK
  have hcl : cleanL [.agg [.sl (nodesA ns) ns.length t, .int .u32 gen], .agg (credL c), .agg (argL a), .agg (worldL ss sn bo)] = true := by
    have h1 := row_clean hc.1
    have h2 := row_clean ha.h
    have h3 := row_clean ha.h2
    have h4 := row_clean ha.data
    simp [cleanL, AV.clean, credL, argL, worldL, h1, h2, h3, h4]
  have cF : ∀ (f : FuncId) (h : H), (evAll TE (m + 29)).1 f (.fn 10 [] []) [.agg [.sl (nodesA ns) ns.length t, .int .u32 gen], a.h] h = some (.ret (.tup [.int .i64 n, .int .u32 0]), h) := hF
  have hd : doesS a.proc = true := by rw [hp]; rfl
  have hm : thereS (ns.map cloneN) n = true := by rw [thereS_clone]; exact hn
  have hmx : (ns.map cloneN)[n.toNat]? = some (cloneN x) := by rw [List.getElem?_map, hx]; rfl
  have hml : (ns.map cloneN).length = ns.length := List.length_map ..
  have hxf := hok x (List.mem_of_getElem? hx)
  have hmo : (cloneN x).ok := ⟨bytesC_ok hxf.1.1, entsC_ok hxf.1.2⟩
  have hmv : nodesOk (.sl (nodesA (ns.map cloneN)) ns.length true) (ns.map cloneN) := .inr ⟨true, by rw [hml]⟩
  obtain ⟨hn1, hn2, _⟩ := there_facts hn
  have hn0 : 0 ≤ n := by omega
  have cA : ∀ (k : Nat) (f : FuncId) (h : H), (evAll TE (k + 2)).1 f (.fn 37 [] []) [.agg [.sl (nodesA (ns.map cloneN)) ns.length true, .int .u32 gen], .int .i64 n] h = some (.ret (.tup [.agg (attrsS x n), .bool true]), h) := fun k f h => attrs_some k f h _ _ hmv gen n (cloneN x) hm hmx hmo
  clear hF
  have cW : ∀ (f : FuncId) (h : H), (evAll TE (m + 28)).1 f (.fn 72 [] []) [.agg [.sl (nodesA (ns.map cloneN)) ns.length true, .int .u32 gen], .agg [.sl (nodesA (ns.map cloneN)) ns.length true, .int .u32 gen], .int .i64 n] h = some (.ret (.agg (weakA x x n)), h) := fun f h => by
    have := weak_c (m + 25) f h (ns.map cloneN) (ns.map cloneN) true true gen gen n (cloneN x) (cloneN x) hm hmx hmo hm hmx hmo
    rw [hml] at this
    exact this
  unfold weakA attrsS at cW ⊢
  generalize IntKind.wrap .u64 (sizeS x) = sz at cW ⊢
  generalize IntKind.wrap .u32 x.links = lk at cW ⊢
  generalize IntKind.wrap .u64 n = idn at cW ⊢
  have hah := ha.h
  obtain ⟨p, hv, hl, nm, h2, h2l, nm2, st, hasG, gs, gn, bits, off, cnt, mx, stb, dat, datl, tg, how, kd, vf, ck⟩ := a
  dsimp only at hah cD cF hd hp hone2 hone3 htop3 hcl ⊢
  subst hp
  rcases hah with ⟨rfl, rfl⟩ | ⟨tt, rfl⟩
  · refine call_clean (fn := Try.f9) rfl Try.func9 rfl rfl hcl rfl rfl (Nat.le_of_ble_eq_true rfl) ?_
    conv => whnf
    (refine runK_ret (ev_box rfl hone1) ?_)
    conv => whnf
    (refine runK_ret (ev_box rfl hone2) ?_)
    conv => whnf
    with_reducible refine ⟨_, _, cT _, ?_⟩
    conv => whnf
    (refine ⟨by kernel_rfl, ?_⟩)
    conv => whnf
    (refine runK_ret (ev_box rfl hone3) ?_)
    conv => whnf
    (refine listK_of (if_pos (Nat.le_trans (Nat.le_of_eq htop3) (Nat.zero_le _))) ?_)
    conv => whnf
    (refine ⟨by kernel_rfl, ?_⟩)
    conv => whnf
    (refine call_raw (fn := Try.f31) rfl Try.func31 rfl rfl (Nat.le_of_ble_eq_true rfl) ?_)
    conv => whnf
    (refine ⟨by kernel_rfl, ?_⟩)
    conv => whnf
    with_reducible refine ⟨_, _, cD _ _, ?_⟩
    conv => whnf
    with_reducible refine ⟨_, _, cK _ _, ?_⟩
    conv => whnf
    with_reducible refine ⟨_, _, cN _ _, ?_⟩
    conv => whnf
    ((with_reducible cases z0 : nanoOk sn) <;> try exact Bool.noConfusion (Eq.trans (Eq.symm z0) hno))
    conv => whnf
    with_reducible refine ⟨_, _, cF _ _, ?_⟩
    conv => whnf
    (refine call_inline (fn := Try.f59) rfl Try.func59 rfl rfl ?_)
    conv => whnf
    with_reducible refine ⟨_, _, cW _ _, ?_⟩
    conv => whnf
    (refine ⟨by kernel_rfl, ?_⟩)
    conv => whnf
    (refine ⟨by kernel_rfl, ?_⟩)
    conv => whnf
    (refine call_inline (fn := Try.f69) rfl Try.func69 rfl rfl ?_)
    conv => whnf
    (refine runK_ret (ev_indexSl (sz := 25) rfl rfl rfl rfl hn0 hn2) ?_)
    conv => whnf
    (refine runK_ret (ev_loadV (z := 1) (v := .int .u32 x.kind) rfl rfl rfl ((nodesA_cell hmx 0 (by decide)).trans rfl)) ?_)
    conv => whnf
    (refine ⟨by kernel_rfl, ?_⟩)
    conv => whnf
    ((with_reducible cases z1 : x.kind == Int.ofNat 2) <;> try exact Bool.noConfusion (Eq.trans (Eq.symm z1) hk))
    conv => whnf
    (refine ⟨by kernel_rfl, ?_⟩)
    conv => whnf
    rfl
  · refine call_clean (fn := Try.f9) rfl Try.func9 rfl rfl hcl rfl rfl (Nat.le_of_ble_eq_true rfl) ?_
    conv => whnf
    (refine runK_ret (ev_box rfl hone1) ?_)
    conv => whnf
    (refine runK_ret (ev_box rfl hone2) ?_)
    conv => whnf
    with_reducible refine ⟨_, _, cT _, ?_⟩
    conv => whnf
    (refine ⟨by kernel_rfl, ?_⟩)
    conv => whnf
    (refine runK_ret (ev_box rfl hone3) ?_)
    conv => whnf
    (refine listK_of (if_pos (Nat.le_trans (Nat.le_of_eq htop3) (Nat.zero_le _))) ?_)
    conv => whnf
    (refine ⟨by kernel_rfl, ?_⟩)
    conv => whnf
    (refine call_raw (fn := Try.f31) rfl Try.func31 rfl rfl (Nat.le_of_ble_eq_true rfl) ?_)
    conv => whnf
    (refine ⟨by kernel_rfl, ?_⟩)
    conv => whnf
    with_reducible refine ⟨_, _, cD _ _, ?_⟩
    conv => whnf
    with_reducible refine ⟨_, _, cK _ _, ?_⟩
    conv => whnf
    with_reducible refine ⟨_, _, cN _ _, ?_⟩
    conv => whnf
    ((with_reducible cases z0 : nanoOk sn) <;> try exact Bool.noConfusion (Eq.trans (Eq.symm z0) hno))
    conv => whnf
    with_reducible refine ⟨_, _, cF _ _, ?_⟩
    conv => whnf
    (refine call_inline (fn := Try.f59) rfl Try.func59 rfl rfl ?_)
    conv => whnf
    with_reducible refine ⟨_, _, cW _ _, ?_⟩
    conv => whnf
    (refine ⟨by kernel_rfl, ?_⟩)
    conv => whnf
    (refine ⟨by kernel_rfl, ?_⟩)
    conv => whnf
    (refine call_inline (fn := Try.f69) rfl Try.func69 rfl rfl ?_)
    conv => whnf
    (refine runK_ret (ev_indexSl (sz := 25) rfl rfl rfl rfl hn0 hn2) ?_)
    conv => whnf
    (refine runK_ret (ev_loadV (z := 1) (v := .int .u32 x.kind) rfl rfl rfl ((nodesA_cell hmx 0 (by decide)).trans rfl)) ?_)
    conv => whnf
    (refine ⟨by kernel_rfl, ?_⟩)
    conv => whnf
    ((with_reducible cases z1 : x.kind == Int.ofNat 2) <;> try exact Bool.noConfusion (Eq.trans (Eq.symm z1) hk))
    conv => whnf
    (refine ⟨by kernel_rfl, ?_⟩)
    conv => whnf
    rfl
set_option maxHeartbeats 8000000 in
theorem look_commit_link (m : Nat) (from_ : FuncId) (h : H) (ns : List NodeS) (t : Bool) (gen : Int) (c : CredS) (hc : c.ok) (a : ArgsS) (ha : a.ok) (ss sn : Int) (bo : Nat → Int) (hok : ∀ x ∈ ns, x.fit) (hlen : ns.length ≤ 1025) (hlen2 : ns ≠ []) (hK : ∀ (f : FuncId) (h : H), evCall TE (m + 29) f (.fn 7 [] []) [.agg [.sl (nodesA ns) ns.length t, .int .u32 gen]] h = some (.ret (.bool true), h)) (hp : a.proc = 21) (hno : nanoOk sn = true) (n : Int) (x : NodeS) (hn : thereS ns n = true) (hx : ns[n.toNat]? = some x) (hF : ∀ (f : FuncId) (h : H), evCall TE (m + 29) f (.fn 10 [] []) [.agg [.sl (nodesA ns) ns.length t, .int .u32 gen], a.h] h = some (.ret (.tup [.int .i64 n, .int .u32 0]), h)) (hk : (x.kind == 2) = false) (hk5 : (x.kind == 5) = true) : evCall TE (m + 30) from_ (.fn 9 [] []) [.agg [.sl (nodesA ns) ns.length t, .int .u32 gen], .agg (credL c), .agg (argL a), .agg (worldL ss sn bo)] h = some (.ret (.tup [.agg [.sl (nodesA (ns.map cloneN)) ns.length true, .int .u32 gen], .agg (ansA a.proc { stat := 22, one := weakA x x n })]), h) := by
  have cT : ∀ (h : H), (evAll TE (m + 29)).1 9 (.fn 30 [] []) [.agg [.sl (nodesA ns) ns.length t, .int .u32 gen]] h = some (.ret (.agg [.sl (nodesA (ns.map cloneN)) ns.length true, .int .u32 gen]), h) := fun h => twinL_c (m + 27) h ns t gen hok hlen hlen2
  have cD : ∀ (f : FuncId) (h : H), (evAll TE (m + 29)).1 f (.fn 32 [] []) [.int .u32 a.proc] h = some (.ret (.bool (doesS a.proc)), h) := fun f h => does_c (m + 27) f h a.proc
  have cK : ∀ (f : FuncId) (h : H), (evAll TE (m + 29)).1 f (.fn 7 [] []) [.agg [.sl (nodesA ns) ns.length t, .int .u32 gen]] h = some (.ret (.bool true), h) := hK
  have cN : ∀ (f : FuncId) (h : H), (evAll TE (m + 29)).1 f (.fn 26 [] []) [.agg [.int .u32 ss, .int .u32 sn]] h = some (.ret (.bool (nanoOk sn)), h) := fun f h => times_c (m + 28) f h ss sn
  have hone1 := cred_one hc
  have hone2 := args_one ha
  have hone3 := work_one (ns := ns) (gen := gen) (ss := ss) (sn := sn) (bo := bo) hc ha
  have htop3 := work_top (ns := ns) (gen := gen) (ss := ss) (sn := sn) (bo := bo) hc ha
  clear hK
  have hcl : cleanL [.agg [.sl (nodesA ns) ns.length t, .int .u32 gen], .agg (credL c), .agg (argL a), .agg (worldL ss sn bo)] = true := by
    have h1 := row_clean hc.1
    have h2 := row_clean ha.h
    have h3 := row_clean ha.h2
    have h4 := row_clean ha.data
    simp [cleanL, AV.clean, credL, argL, worldL, h1, h2, h3, h4]
  have cF : ∀ (f : FuncId) (h : H), (evAll TE (m + 29)).1 f (.fn 10 [] []) [.agg [.sl (nodesA ns) ns.length t, .int .u32 gen], a.h] h = some (.ret (.tup [.int .i64 n, .int .u32 0]), h) := hF
  have hd : doesS a.proc = true := by rw [hp]; rfl
  have hm : thereS (ns.map cloneN) n = true := by rw [thereS_clone]; exact hn
  have hmx : (ns.map cloneN)[n.toNat]? = some (cloneN x) := by rw [List.getElem?_map, hx]; rfl
  have hml : (ns.map cloneN).length = ns.length := List.length_map ..
  have hxf := hok x (List.mem_of_getElem? hx)
  have hmo : (cloneN x).ok := ⟨bytesC_ok hxf.1.1, entsC_ok hxf.1.2⟩
  have hmv : nodesOk (.sl (nodesA (ns.map cloneN)) ns.length true) (ns.map cloneN) := .inr ⟨true, by rw [hml]⟩
  obtain ⟨hn1, hn2, _⟩ := there_facts hn
  have hn0 : 0 ≤ n := by omega
  have cA : ∀ (k : Nat) (f : FuncId) (h : H), (evAll TE (k + 2)).1 f (.fn 37 [] []) [.agg [.sl (nodesA (ns.map cloneN)) ns.length true, .int .u32 gen], .int .i64 n] h = some (.ret (.tup [.agg (attrsS x n), .bool true]), h) := fun k f h => attrs_some k f h _ _ hmv gen n (cloneN x) hm hmx hmo
  clear hF
  have cW : ∀ (f : FuncId) (h : H), (evAll TE (m + 28)).1 f (.fn 72 [] []) [.agg [.sl (nodesA (ns.map cloneN)) ns.length true, .int .u32 gen], .agg [.sl (nodesA (ns.map cloneN)) ns.length true, .int .u32 gen], .int .i64 n] h = some (.ret (.agg (weakA x x n)), h) := fun f h => by
    have := weak_c (m + 25) f h (ns.map cloneN) (ns.map cloneN) true true gen gen n (cloneN x) (cloneN x) hm hmx hmo hm hmx hmo
    rw [hml] at this
    exact this
  unfold weakA attrsS at cW ⊢
  generalize IntKind.wrap .u64 (sizeS x) = sz at cW ⊢
  generalize IntKind.wrap .u32 x.links = lk at cW ⊢
  generalize IntKind.wrap .u64 n = idn at cW ⊢
  have hah := ha.h
  obtain ⟨p, hv, hl, nm, h2, h2l, nm2, st, hasG, gs, gn, bits, off, cnt, mx, stb, dat, datl, tg, how, kd, vf, ck⟩ := a
  dsimp only at hah cD cF hd hp hone2 hone3 htop3 hcl ⊢
  subst hp
  rcases hah with ⟨rfl, rfl⟩ | ⟨tt, rfl⟩
  · refine call_clean (fn := Try.f9) rfl Try.func9 rfl rfl hcl rfl rfl (Nat.le_of_ble_eq_true rfl) ?_
    conv => whnf
    (refine runK_ret (ev_box rfl hone1) ?_)
    conv => whnf
    (refine runK_ret (ev_box rfl hone2) ?_)
    conv => whnf
    with_reducible refine ⟨_, _, cT _, ?_⟩
    conv => whnf
    (refine ⟨by kernel_rfl, ?_⟩)
    conv => whnf
    (refine runK_ret (ev_box rfl hone3) ?_)
    conv => whnf
    (refine listK_of (if_pos (Nat.le_trans (Nat.le_of_eq htop3) (Nat.zero_le _))) ?_)
    conv => whnf
    (refine ⟨by kernel_rfl, ?_⟩)
    conv => whnf
    (refine call_raw (fn := Try.f31) rfl Try.func31 rfl rfl (Nat.le_of_ble_eq_true rfl) ?_)
    conv => whnf
    (refine ⟨by kernel_rfl, ?_⟩)
    conv => whnf
    with_reducible refine ⟨_, _, cD _ _, ?_⟩
    conv => whnf
    with_reducible refine ⟨_, _, cK _ _, ?_⟩
    conv => whnf
    with_reducible refine ⟨_, _, cN _ _, ?_⟩
    conv => whnf
    ((with_reducible cases z0 : nanoOk sn) <;> try exact Bool.noConfusion (Eq.trans (Eq.symm z0) hno))
    conv => whnf
    with_reducible refine ⟨_, _, cF _ _, ?_⟩
    conv => whnf
    (refine call_inline (fn := Try.f59) rfl Try.func59 rfl rfl ?_)
    conv => whnf
    with_reducible refine ⟨_, _, cW _ _, ?_⟩
    conv => whnf
    (refine ⟨by kernel_rfl, ?_⟩)
    conv => whnf
    (refine ⟨by kernel_rfl, ?_⟩)
    conv => whnf
    (refine call_inline (fn := Try.f69) rfl Try.func69 rfl rfl ?_)
    conv => whnf
    (refine runK_ret (ev_indexSl (sz := 25) rfl rfl rfl rfl hn0 hn2) ?_)
    conv => whnf
    (refine runK_ret (ev_loadV (z := 1) (v := .int .u32 x.kind) rfl rfl rfl ((nodesA_cell hmx 0 (by decide)).trans rfl)) ?_)
    conv => whnf
    (refine ⟨by kernel_rfl, ?_⟩)
    conv => whnf
    ((with_reducible cases z1 : x.kind == Int.ofNat 2) <;> try exact Bool.noConfusion (Eq.trans (Eq.symm z1) hk))
    conv => whnf
    ((with_reducible cases z2 : x.kind == Int.ofNat 5) <;> try exact Bool.noConfusion (Eq.trans (Eq.symm z2) hk5))
    conv => whnf
    (refine ⟨by kernel_rfl, ?_⟩)
    conv => whnf
    rfl
  · refine call_clean (fn := Try.f9) rfl Try.func9 rfl rfl hcl rfl rfl (Nat.le_of_ble_eq_true rfl) ?_
    conv => whnf
    (refine runK_ret (ev_box rfl hone1) ?_)
    conv => whnf
    (refine runK_ret (ev_box rfl hone2) ?_)
    conv => whnf
    with_reducible refine ⟨_, _, cT _, ?_⟩
    conv => whnf
    (refine ⟨by kernel_rfl, ?_⟩)
    conv => whnf
    (refine runK_ret (ev_box rfl hone3) ?_)
    conv => whnf
    (refine listK_of (if_pos (Nat.le_trans (Nat.le_of_eq htop3) (Nat.zero_le _))) ?_)
    conv => whnf
    (refine ⟨by kernel_rfl, ?_⟩)
    conv => whnf
    (refine call_raw (fn := Try.f31) rfl Try.func31 rfl rfl (Nat.le_of_ble_eq_true rfl) ?_)
    conv => whnf
    (refine ⟨by kernel_rfl, ?_⟩)
    conv => whnf
    with_reducible refine ⟨_, _, cD _ _, ?_⟩
    conv => whnf
    with_reducible refine ⟨_, _, cK _ _, ?_⟩
    conv => whnf
    with_reducible refine ⟨_, _, cN _ _, ?_⟩
    conv => whnf
    ((with_reducible cases z0 : nanoOk sn) <;> try exact Bool.noConfusion (Eq.trans (Eq.symm z0) hno))
    conv => whnf
    with_reducible refine ⟨_, _, cF _ _, ?_⟩
    conv => whnf
    (refine call_inline (fn := Try.f59) rfl Try.func59 rfl rfl ?_)
    conv => whnf
    with_reducible refine ⟨_, _, cW _ _, ?_⟩
    conv => whnf
    (refine ⟨by kernel_rfl, ?_⟩)
    conv => whnf
    (refine ⟨by kernel_rfl, ?_⟩)
    conv => whnf
    (refine call_inline (fn := Try.f69) rfl Try.func69 rfl rfl ?_)
    conv => whnf
    (refine runK_ret (ev_indexSl (sz := 25) rfl rfl rfl rfl hn0 hn2) ?_)
    conv => whnf
    (refine runK_ret (ev_loadV (z := 1) (v := .int .u32 x.kind) rfl rfl rfl ((nodesA_cell hmx 0 (by decide)).trans rfl)) ?_)
    conv => whnf
    (refine ⟨by kernel_rfl, ?_⟩)
    conv => whnf
    ((with_reducible cases z1 : x.kind == Int.ofNat 2) <;> try exact Bool.noConfusion (Eq.trans (Eq.symm z1) hk))
    conv => whnf
    ((with_reducible cases z2 : x.kind == Int.ofNat 5) <;> try exact Bool.noConfusion (Eq.trans (Eq.symm z2) hk5))
    conv => whnf
    (refine ⟨by kernel_rfl, ?_⟩)
    conv => whnf
    rfl
set_option maxHeartbeats 8000000 in
theorem look_commit_ok (m : Nat) (from_ : FuncId) (h : H) (ns : List NodeS) (t : Bool) (gen : Int) (c : CredS) (hc : c.ok) (a : ArgsS) (ha : a.ok) (ss sn : Int) (bo : Nat → Int) (hok : ∀ x ∈ ns, x.fit) (hlen : ns.length ≤ 1025) (hlen2 : ns ≠ []) (hK : ∀ (f : FuncId) (h : H), evCall TE (m + 29) f (.fn 7 [] []) [.agg [.sl (nodesA ns) ns.length t, .int .u32 gen]] h = some (.ret (.bool true), h)) (hp : a.proc = 21) (hno : nanoOk sn = true) (n : Int) (x : NodeS) (hn : thereS ns n = true) (hx : ns[n.toNat]? = some x) (hF : ∀ (f : FuncId) (h : H), evCall TE (m + 29) f (.fn 10 [] []) [.agg [.sl (nodesA ns) ns.length t, .int .u32 gen], a.h] h = some (.ret (.tup [.int .i64 n, .int .u32 0]), h)) (hk : (x.kind == 2) = false) (hk5 : (x.kind == 5) = false) : evCall TE (m + 30) from_ (.fn 9 [] []) [.agg [.sl (nodesA ns) ns.length t, .int .u32 gen], .agg (credL c), .agg (argL a), .agg (worldL ss sn bo)] h = some (.ret (.tup [.agg [.sl (nodesA (ns.map cloneN)) ns.length true, .int .u32 gen], .agg (ansA a.proc { stat := 0, one := weakA x x n, verf := (worldL ss sn bo).drop 2 })]), h) := by
  have cT : ∀ (h : H), (evAll TE (m + 29)).1 9 (.fn 30 [] []) [.agg [.sl (nodesA ns) ns.length t, .int .u32 gen]] h = some (.ret (.agg [.sl (nodesA (ns.map cloneN)) ns.length true, .int .u32 gen]), h) := fun h => twinL_c (m + 27) h ns t gen hok hlen hlen2
  have cD : ∀ (f : FuncId) (h : H), (evAll TE (m + 29)).1 f (.fn 32 [] []) [.int .u32 a.proc] h = some (.ret (.bool (doesS a.proc)), h) := fun f h => does_c (m + 27) f h a.proc
  have cK : ∀ (f : FuncId) (h : H), (evAll TE (m + 29)).1 f (.fn 7 [] []) [.agg [.sl (nodesA ns) ns.length t, .int .u32 gen]] h = some (.ret (.bool true), h) := hK
  have cN : ∀ (f : FuncId) (h : H), (evAll TE (m + 29)).1 f (.fn 26 [] []) [.agg [.int .u32 ss, .int .u32 sn]] h = some (.ret (.bool (nanoOk sn)), h) := fun f h => times_c (m + 28) f h ss sn
  have hone1 := cred_one hc
  have hone2 := args_one ha
  have hone3 := work_one (ns := ns) (gen := gen) (ss := ss) (sn := sn) (bo := bo) hc ha
  have htop3 := work_top (ns := ns) (gen := gen) (ss := ss) (sn := sn) (bo := bo) hc ha
  clear hK
  have hcl : cleanL [.agg [.sl (nodesA ns) ns.length t, .int .u32 gen], .agg (credL c), .agg (argL a), .agg (worldL ss sn bo)] = true := by
    have h1 := row_clean hc.1
    have h2 := row_clean ha.h
    have h3 := row_clean ha.h2
    have h4 := row_clean ha.data
    simp [cleanL, AV.clean, credL, argL, worldL, h1, h2, h3, h4]
  have cF : ∀ (f : FuncId) (h : H), (evAll TE (m + 29)).1 f (.fn 10 [] []) [.agg [.sl (nodesA ns) ns.length t, .int .u32 gen], a.h] h = some (.ret (.tup [.int .i64 n, .int .u32 0]), h) := hF
  have hd : doesS a.proc = true := by rw [hp]; rfl
  have hm : thereS (ns.map cloneN) n = true := by rw [thereS_clone]; exact hn
  have hmx : (ns.map cloneN)[n.toNat]? = some (cloneN x) := by rw [List.getElem?_map, hx]; rfl
  have hml : (ns.map cloneN).length = ns.length := List.length_map ..
  have hxf := hok x (List.mem_of_getElem? hx)
  have hmo : (cloneN x).ok := ⟨bytesC_ok hxf.1.1, entsC_ok hxf.1.2⟩
  have hmv : nodesOk (.sl (nodesA (ns.map cloneN)) ns.length true) (ns.map cloneN) := .inr ⟨true, by rw [hml]⟩
  obtain ⟨hn1, hn2, _⟩ := there_facts hn
  have hn0 : 0 ≤ n := by omega
  have cA : ∀ (k : Nat) (f : FuncId) (h : H), (evAll TE (k + 2)).1 f (.fn 37 [] []) [.agg [.sl (nodesA (ns.map cloneN)) ns.length true, .int .u32 gen], .int .i64 n] h = some (.ret (.tup [.agg (attrsS x n), .bool true]), h) := fun k f h => attrs_some k f h _ _ hmv gen n (cloneN x) hm hmx hmo
  clear hF
  have cW : ∀ (f : FuncId) (h : H), (evAll TE (m + 28)).1 f (.fn 72 [] []) [.agg [.sl (nodesA (ns.map cloneN)) ns.length true, .int .u32 gen], .agg [.sl (nodesA (ns.map cloneN)) ns.length true, .int .u32 gen], .int .i64 n] h = some (.ret (.agg (weakA x x n)), h) := fun f h => by
    have := weak_c (m + 25) f h (ns.map cloneN) (ns.map cloneN) true true gen gen n (cloneN x) (cloneN x) hm hmx hmo hm hmx hmo
    rw [hml] at this
    exact this
  unfold weakA attrsS at cW ⊢
  generalize IntKind.wrap .u64 (sizeS x) = sz at cW ⊢
  generalize IntKind.wrap .u32 x.links = lk at cW ⊢
  generalize IntKind.wrap .u64 n = idn at cW ⊢
  have hah := ha.h
  obtain ⟨p, hv, hl, nm, h2, h2l, nm2, st, hasG, gs, gn, bits, off, cnt, mx, stb, dat, datl, tg, how, kd, vf, ck⟩ := a
  dsimp only at hah cD cF hd hp hone2 hone3 htop3 hcl ⊢
  subst hp
  rcases hah with ⟨rfl, rfl⟩ | ⟨tt, rfl⟩
  · refine call_clean (fn := Try.f9) rfl Try.func9 rfl rfl hcl rfl rfl (Nat.le_of_ble_eq_true rfl) ?_
    conv => whnf
    (refine runK_ret (ev_box rfl hone1) ?_)
    conv => whnf
    (refine runK_ret (ev_box rfl hone2) ?_)
    conv => whnf
    with_reducible refine ⟨_, _, cT _, ?_⟩
    conv => whnf
    (refine ⟨by kernel_rfl, ?_⟩)
    conv => whnf
    (refine runK_ret (ev_box rfl hone3) ?_)
    conv => whnf
    (refine listK_of (if_pos (Nat.le_trans (Nat.le_of_eq htop3) (Nat.zero_le _))) ?_)
    conv => whnf
    (refine ⟨by kernel_rfl, ?_⟩)
    conv => whnf
    (refine call_raw (fn := Try.f31) rfl Try.func31 rfl rfl (Nat.le_of_ble_eq_true rfl) ?_)
    conv => whnf
    (refine ⟨by kernel_rfl, ?_⟩)
    conv => whnf
    with_reducible refine ⟨_, _, cD _ _, ?_⟩
    conv => whnf
    with_reducible refine ⟨_, _, cK _ _, ?_⟩
    conv => whnf
    with_reducible refine ⟨_, _, cN _ _, ?_⟩
    conv => whnf
    ((with_reducible cases z0 : nanoOk sn) <;> try exact Bool.noConfusion (Eq.trans (Eq.symm z0) hno))
    conv => whnf
    with_reducible refine ⟨_, _, cF _ _, ?_⟩
    conv => whnf
    (refine call_inline (fn := Try.f59) rfl Try.func59 rfl rfl ?_)
    conv => whnf
    with_reducible refine ⟨_, _, cW _ _, ?_⟩
    conv => whnf
    (refine ⟨by kernel_rfl, ?_⟩)
    conv => whnf
    (refine ⟨by kernel_rfl, ?_⟩)
    conv => whnf
    (refine call_inline (fn := Try.f69) rfl Try.func69 rfl rfl ?_)
    conv => whnf
    (refine runK_ret (ev_indexSl (sz := 25) rfl rfl rfl rfl hn0 hn2) ?_)
    conv => whnf
    (refine runK_ret (ev_loadV (z := 1) (v := .int .u32 x.kind) rfl rfl rfl ((nodesA_cell hmx 0 (by decide)).trans rfl)) ?_)
    conv => whnf
    (refine ⟨by kernel_rfl, ?_⟩)
    conv => whnf
    ((with_reducible cases z1 : x.kind == Int.ofNat 2) <;> try exact Bool.noConfusion (Eq.trans (Eq.symm z1) hk))
    conv => whnf
    ((with_reducible cases z2 : x.kind == Int.ofNat 5) <;> try exact Bool.noConfusion (Eq.trans (Eq.symm z2) hk5))
    conv => whnf
    (refine ⟨by kernel_rfl, ?_⟩)
    conv => whnf
    rfl
  · refine call_clean (fn := Try.f9) rfl Try.func9 rfl rfl hcl rfl rfl (Nat.le_of_ble_eq_true rfl) ?_
    conv => whnf
    (refine runK_ret (ev_box rfl hone1) ?_)
    conv => whnf
    (refine runK_ret (ev_box rfl hone2) ?_)
    conv => whnf
    with_reducible refine ⟨_, _, cT _, ?_⟩
    conv => whnf
    (refine ⟨by kernel_rfl, ?_⟩)
    conv => whnf
    (refine runK_ret (ev_box rfl hone3) ?_)
    conv => whnf
    (refine listK_of (if_pos (Nat.le_trans (Nat.le_of_eq htop3) (Nat.zero_le _))) ?_)
    conv => whnf
    (refine ⟨by kernel_rfl, ?_⟩)
    conv => whnf
    (refine call_raw (fn := Try.f31) rfl Try.func31 rfl rfl (Nat.le_of_ble_eq_true rfl) ?_)
    conv => whnf
    (refine ⟨by kernel_rfl, ?_⟩)
    conv => whnf
    with_reducible refine ⟨_, _, cD _ _, ?_⟩
    conv => whnf
    with_reducible refine ⟨_, _, cK _ _, ?_⟩
    conv => whnf
    with_reducible refine ⟨_, _, cN _ _, ?_⟩
    conv => whnf
    ((with_reducible cases z0 : nanoOk sn) <;> try exact Bool.noConfusion (Eq.trans (Eq.symm z0) hno))
    conv => whnf
    with_reducible refine ⟨_, _, cF _ _, ?_⟩
    conv => whnf
    (refine call_inline (fn := Try.f59) rfl Try.func59 rfl rfl ?_)
    conv => whnf
    with_reducible refine ⟨_, _, cW _ _, ?_⟩
    conv => whnf
    (refine ⟨by kernel_rfl, ?_⟩)
    conv => whnf
    (refine ⟨by kernel_rfl, ?_⟩)
    conv => whnf
    (refine call_inline (fn := Try.f69) rfl Try.func69 rfl rfl ?_)
    conv => whnf
    (refine runK_ret (ev_indexSl (sz := 25) rfl rfl rfl rfl hn0 hn2) ?_)
    conv => whnf
    (refine runK_ret (ev_loadV (z := 1) (v := .int .u32 x.kind) rfl rfl rfl ((nodesA_cell hmx 0 (by decide)).trans rfl)) ?_)
    conv => whnf
    (refine ⟨by kernel_rfl, ?_⟩)
    conv => whnf
    ((with_reducible cases z1 : x.kind == Int.ofNat 2) <;> try exact Bool.noConfusion (Eq.trans (Eq.symm z1) hk))
    conv => whnf
    ((with_reducible cases z2 : x.kind == Int.ofNat 5) <;> try exact Bool.noConfusion (Eq.trans (Eq.symm z2) hk5))
    conv => whnf
    (refine ⟨by kernel_rfl, ?_⟩)
    conv => whnf
    rfl
end Go.Proofs.Ytnkeijebkpjdgaa.Ab
