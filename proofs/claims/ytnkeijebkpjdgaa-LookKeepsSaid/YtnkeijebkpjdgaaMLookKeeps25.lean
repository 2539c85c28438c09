import Derived.Test.YtnkeijebkpjdgaaMLookKeeps23
import Derived.Test.YtnkeijebkpjdgaaMLookKeeps24
import Derived.Test.YtnkeijebkpjdgaaMLookKeeps17
set_option linter.unusedVariables false
set_option linter.unusedSimpArgs false
/- Over the engine: what only looks: names that are looked up. -/
namespace Go.Proofs.Ytnkeijebkpjdgaa.Ab
open Go Go.RowKit

set_option maxRecDepth 100000
set_option maxHeartbeats 16000000 in
theorem look_lookup_not (m : Nat) (from_ : FuncId) (h : H) (ns : List NodeS) (t : Bool) (gen : Int) (c : CredS) (hc : c.ok) (a : ArgsS) (ha : a.ok) (ss sn : Int) (bo : Nat → Int) (hok : ∀ x ∈ ns, x.fit) (hlen : ns.length ≤ 1025) (hlen2 : ns ≠ []) (hK : ∀ (f : FuncId) (h : H), evCall TE (m + 29) f (.fn 7 [] []) [.agg [.sl (nodesA ns) ns.length t, .int .u32 gen]] h = some (.ret (.bool true), h)) (hp : a.proc = 3) (hno : nanoOk sn = true) (n : Int) (x : NodeS) (hn : thereS ns n = true) (hx : ns[n.toNat]? = some x) (hF : ∀ (f : FuncId) (h : H), evCall TE (m + 29) f (.fn 10 [] []) [.agg [.sl (nodesA ns) ns.length t, .int .u32 gen], a.h] h = some (.ret (.tup [.int .i64 n, .int .u32 0]), h)) (tt : Bool) (hsl : a.h = .sl (numsA .u8 a.hl) a.hl.length tt) (hk : (x.kind != 2) = true) : evCall TE (m + 30) from_ (.fn 9 [] []) [.agg [.sl (nodesA ns) ns.length t, .int .u32 gen], .agg (credL c), .agg (argL a), .agg (worldL ss sn bo)] h = some (.ret (.tup [.agg [.sl (nodesA (ns.map cloneN)) ns.length true, .int .u32 gen], .agg (ansA a.proc { stat := 20, hd := true, dir := attrsS x n })]), h) := by
  have cT : ∀ (h : H), (evAll TE (m + 29)).1 9 (.fn 30 [] []) [.agg [.sl (nodesA ns) ns.length t, .int .u32 gen]] h = some (.ret (.agg [.sl (nodesA (ns.map cloneN)) ns.length true, .int .u32 gen]), h) := fun h => twinL_c (m + 27) h ns t gen hok hlen hlen2
  have cD : ∀ (f : FuncId) (h : H), (evAll TE (m + 29)).1 f (.fn 32 [] []) [.int .u32 a.proc] h = some (.ret (.bool (doesS a.proc)), h) := fun f h => does_c (m + 27) f h a.proc
  have cK : ∀ (f : FuncId) (h : H), (evAll TE (m + 29)).1 f (.fn 7 [] []) [.agg [.sl (nodesA ns) ns.length t, .int .u32 gen]] h = some (.ret (.bool true), h) := hK
  have cN : ∀ (f : FuncId) (h : H), (evAll TE (m + 29)).1 f (.fn 26 [] []) [.agg [.int .u32 ss, .int .u32 sn]] h = some (.ret (.bool (nanoOk sn)), h) := fun f h => times_c (m + 28) f h ss sn
  have hone1 := cred_one hc
  have hone2 := args_one ha
  have hone3 := work_one (ns := ns) (gen := gen) (ss := ss) (sn := sn) (bo := bo) hc ha
  have htop3 := work_top (ns := ns) (gen := gen) (ss := ss) (sn := sn) (bo := bo) hc ha
  clear hK
  have hcl : cleanL [.agg [.sl (nodesA ns) ns.length t, .int .u32 gen], .agg (credL c), .agg (argL a), .agg (worldL ss sn bo)] = true := by
    have h1 := row_clean hc.1
    have h2 := row_clean ha.h
    have h3 := row_clean ha.h2
    have h4 := row_clean ha.data
    simp [cleanL, AV.clean, credL, argL, worldL, h1, h2, h3, h4]
  have cF : ∀ (f : FuncId) (h : H), (evAll TE (m + 29)).1 f (.fn 10 [] []) [.agg [.sl (nodesA ns) ns.length t, .int .u32 gen], a.h] h = some (.ret (.tup [.int .i64 n, .int .u32 0]), h) := hF
  have hd : doesS a.proc = true := by rw [hp]; rfl
  have hm : thereS (ns.map cloneN) n = true := by rw [thereS_clone]; exact hn
  have hmx : (ns.map cloneN)[n.toNat]? = some (cloneN x) := by rw [List.getElem?_map, hx]; rfl
  have hml : (ns.map cloneN).length = ns.length := List.length_map ..
  have hxf := hok x (List.mem_of_getElem? hx)
  have hmo : (cloneN x).ok := ⟨bytesC_ok hxf.1.1, entsC_ok hxf.1.2⟩
  have hmv : nodesOk (.sl (nodesA (ns.map cloneN)) ns.length true) (ns.map cloneN) := .inr ⟨true, by rw [hml]⟩
  obtain ⟨hn1, hn2, _⟩ := there_facts hn
  have hn0 : 0 ≤ n := by omega
  have cA : ∀ (k : Nat) (f : FuncId) (h : H), (evAll TE (k + 2)).1 f (.fn 37 [] []) [.agg [.sl (nodesA (ns.map cloneN)) ns.length true, .int .u32 gen], .int .i64 n] h = some (.ret (.tup [.agg (attrsS x n), .bool true]), h) := fun k f h => attrs_some k f h _ _ hmv gen n (cloneN x) hm hmx hmo
  clear hF
  unfold attrsS at cA ⊢
  generalize IntKind.wrap .u64 (sizeS x) = sz at cA ⊢
  generalize IntKind.wrap .u32 x.links = lk at cA ⊢
  generalize IntKind.wrap .u64 n = idn at cA ⊢
  obtain ⟨p, hv, hl, nm, h2, h2l, nm2, st, hasG, gs, gn, bits, off, cnt, mx, stb, dat, datl, tg, how, kd, vf, ck⟩ := a
  dsimp only at hsl cD cF hd hp hone2 hone3 htop3 hcl ⊢
  subst hsl
  subst hp
  refine call_clean (fn := Try.f9) rfl Try.func9 rfl rfl hcl rfl rfl (Nat.le_of_ble_eq_true rfl) ?_
  conv => whnf
  (refine runK_ret (ev_box rfl hone1) ?_)
  conv => whnf
  (refine runK_ret (ev_box rfl hone2) ?_)
  conv => whnf
  with_reducible refine ⟨_, _, cT _, ?_⟩
  conv => whnf
  (refine ⟨by kernel_rfl, ?_⟩)
  conv => whnf
  (refine runK_ret (ev_box rfl hone3) ?_)
  conv => whnf
  (refine listK_of (if_pos (Nat.le_trans (Nat.le_of_eq htop3) (Nat.zero_le _))) ?_)
  conv => whnf
  (refine ⟨by kernel_rfl, ?_⟩)
  conv => whnf
  (refine call_raw (fn := Try.f31) rfl Try.func31 rfl rfl (Nat.le_of_ble_eq_true rfl) ?_)
  conv => whnf
  (refine ⟨by kernel_rfl, ?_⟩)
  conv => whnf
  with_reducible refine ⟨_, _, cD _ _, ?_⟩
  conv => whnf
  with_reducible refine ⟨_, _, cK _ _, ?_⟩
  conv => whnf
  with_reducible refine ⟨_, _, cN _ _, ?_⟩
  conv => whnf
  ((with_reducible cases z0 : nanoOk sn) <;> try exact Bool.noConfusion (Eq.trans (Eq.symm z0) hno))
  conv => whnf
  with_reducible refine ⟨_, _, cF _ _, ?_⟩
  conv => whnf
  (refine call_inline (fn := Try.f54) rfl Try.func54 rfl rfl ?_)
  conv => whnf
  with_reducible refine ⟨_, _, cA _ _ _, ?_⟩
  conv => whnf
  (refine ⟨by kernel_rfl, ?_⟩)
  conv => whnf
  (refine ⟨by kernel_rfl, ?_⟩)
  conv => whnf
  (refine call_inline (fn := Try.f69) rfl Try.func69 rfl rfl ?_)
  conv => whnf
  (refine runK_ret (ev_indexSl (sz := 25) rfl rfl rfl rfl hn0 hn2) ?_)
  conv => whnf
  (refine runK_ret (ev_loadV (z := 1) (v := .int .u32 x.kind) rfl rfl rfl ((nodesA_cell hmx 0 (by decide)).trans rfl)) ?_)
  conv => whnf
  (refine ⟨by kernel_rfl, ?_⟩)
  conv => whnf
  ((with_reducible cases z1 : x.kind != Int.ofNat 2) <;> try exact Bool.noConfusion (Eq.trans (Eq.symm z1) hk))
  conv => whnf
  (refine ⟨by kernel_rfl, ?_⟩)
  conv => whnf
  rfl
set_option maxHeartbeats 16000000 in
theorem look_lookup_name (m : Nat) (from_ : FuncId) (h : H) (ns : List NodeS) (t : Bool) (gen : Int) (c : CredS) (hc : c.ok) (a : ArgsS) (ha : a.ok) (ss sn : Int) (bo : Nat → Int) (hok : ∀ x ∈ ns, x.fit) (hlen : ns.length ≤ 1025) (hlen2 : ns ≠ []) (hK : ∀ (f : FuncId) (h : H), evCall TE (m + 29) f (.fn 7 [] []) [.agg [.sl (nodesA ns) ns.length t, .int .u32 gen]] h = some (.ret (.bool true), h)) (hp : a.proc = 3) (hno : nanoOk sn = true) (n : Int) (x : NodeS) (hn : thereS ns n = true) (hx : ns[n.toNat]? = some x) (hF : ∀ (f : FuncId) (h : H), evCall TE (m + 29) f (.fn 10 [] []) [.agg [.sl (nodesA ns) ns.length t, .int .u32 gen], a.h] h = some (.ret (.tup [.int .i64 n, .int .u32 0]), h)) (tt : Bool) (hsl : a.h = .sl (numsA .u8 a.hl) a.hl.length tt) (hk : (x.kind != 2) = false) (hnl : a.name.length ≤ 140737488351232) (hns : (nameSt a.name != 0) = true) : evCall TE (m + 30) from_ (.fn 9 [] []) [.agg [.sl (nodesA ns) ns.length t, .int .u32 gen], .agg (credL c), .agg (argL a), .agg (worldL ss sn bo)] h = some (.ret (.tup [.agg [.sl (nodesA (ns.map cloneN)) ns.length true, .int .u32 gen], .agg (ansA a.proc { stat := nameSt a.name, hd := true, dir := attrsS x n })]), h) := by
  have cT : ∀ (h : H), (evAll TE (m + 29)).1 9 (.fn 30 [] []) [.agg [.sl (nodesA ns) ns.length t, .int .u32 gen]] h = some (.ret (.agg [.sl (nodesA (ns.map cloneN)) ns.length true, .int .u32 gen]), h) := fun h => twinL_c (m + 27) h ns t gen hok hlen hlen2
  have cD : ∀ (f : FuncId) (h : H), (evAll TE (m + 29)).1 f (.fn 32 [] []) [.int .u32 a.proc] h = some (.ret (.bool (doesS a.proc)), h) := fun f h => does_c (m + 27) f h a.proc
  have cK : ∀ (f : FuncId) (h : H), (evAll TE (m + 29)).1 f (.fn 7 [] []) [.agg [.sl (nodesA ns) ns.length t, .int .u32 gen]] h = some (.ret (.bool true), h) := hK
  have cN : ∀ (f : FuncId) (h : H), (evAll TE (m + 29)).1 f (.fn 26 [] []) [.agg [.int .u32 ss, .int .u32 sn]] h = some (.ret (.bool (nanoOk sn)), h) := fun f h => times_c (m + 28) f h ss sn
  have hone1 := cred_one hc
  have hone2 := args_one ha
  have hone3 := work_one (ns := ns) (gen := gen) (ss := ss) (sn := sn) (bo := bo) hc ha
  have htop3 := work_top (ns := ns) (gen := gen) (ss := ss) (sn := sn) (bo := bo) hc ha
  clear hK
  have hcl : cleanL [.agg [.sl (nodesA ns) ns.length t, .int .u32 gen], .agg (credL c), .agg (argL a), .agg (worldL ss sn bo)] = true := by
    have h1 := row_clean hc.1
    have h2 := row_clean ha.h
    have h3 := row_clean ha.h2
    have h4 := row_clean ha.data
    simp [cleanL, AV.clean, credL, argL, worldL, h1, h2, h3, h4]
  have cF : ∀ (f : FuncId) (h : H), (evAll TE (m + 29)).1 f (.fn 10 [] []) [.agg [.sl (nodesA ns) ns.length t, .int .u32 gen], a.h] h = some (.ret (.tup [.int .i64 n, .int .u32 0]), h) := hF
  have hd : doesS a.proc = true := by rw [hp]; rfl
  have hm : thereS (ns.map cloneN) n = true := by rw [thereS_clone]; exact hn
  have hmx : (ns.map cloneN)[n.toNat]? = some (cloneN x) := by rw [List.getElem?_map, hx]; rfl
  have hml : (ns.map cloneN).length = ns.length := List.length_map ..
  have hxf := hok x (List.mem_of_getElem? hx)
  have hmo : (cloneN x).ok := ⟨bytesC_ok hxf.1.1, entsC_ok hxf.1.2⟩
  have hmv : nodesOk (.sl (nodesA (ns.map cloneN)) ns.length true) (ns.map cloneN) := .inr ⟨true, by rw [hml]⟩
  obtain ⟨hn1, hn2, _⟩ := there_facts hn
  have hn0 : 0 ≤ n := by omega
  have cA : ∀ (k : Nat) (f : FuncId) (h : H), (evAll TE (k + 2)).1 f (.fn 37 [] []) [.agg [.sl (nodesA (ns.map cloneN)) ns.length true, .int .u32 gen], .int .i64 n] h = some (.ret (.tup [.agg (attrsS x n), .bool true]), h) := fun k f h => attrs_some k f h _ _ hmv gen n (cloneN x) hm hmx hmo
  clear hF
  have cS : ∀ (k : Nat) (f : FuncId) (h : H), (evAll TE (k + 4)).1 f (.fn 45 [] []) [.str a.name] h = some (.ret (.int .u32 (nameSt a.name)), h) := fun k f h => name_c k f h a.name hnl
  obtain ⟨ne, hne⟩ : ∃ e, e = nameSt a.name := ⟨_, rfl⟩
  rw [← hne] at cS hns ⊢
  unfold attrsS at cA ⊢
  generalize IntKind.wrap .u64 (sizeS x) = sz at cA ⊢
  generalize IntKind.wrap .u32 x.links = lk at cA ⊢
  generalize IntKind.wrap .u64 n = idn at cA ⊢
  obtain ⟨p, hv, hl, nm, h2, h2l, nm2, st, hasG, gs, gn, bits, off, cnt, mx, stb, dat, datl, tg, how, kd, vf, ck⟩ := a
  dsimp only at hsl cD cF hd hp hone2 hone3 htop3 hcl cS ⊢
  subst hsl
  subst hp
  refine call_clean (fn := Try.f9) rfl Try.func9 rfl rfl hcl rfl rfl (Nat.le_of_ble_eq_true rfl) ?_
  conv => whnf
  (refine runK_ret (ev_box rfl hone1) ?_)
  conv => whnf
  (refine runK_ret (ev_box rfl hone2) ?_)
  conv => whnf
  with_reducible refine ⟨_, _, cT _, ?_⟩
  conv => whnf
  (refine ⟨by kernel_rfl, ?_⟩)
  conv => whnf
  (refine runK_ret (ev_box rfl hone3) ?_)
  conv => whnf
  (refine listK_of (if_pos (Nat.le_trans (Nat.le_of_eq htop3) (Nat.zero_le _))) ?_)
  conv => whnf
  (refine ⟨by kernel_rfl, ?_⟩)
  conv => whnf
  (refine call_raw (fn := Try.f31) rfl Try.func31 rfl rfl (Nat.le_of_ble_eq_true rfl) ?_)
  conv => whnf
  (refine ⟨by kernel_rfl, ?_⟩)
  conv => whnf
  with_reducible refine ⟨_, _, cD _ _, ?_⟩
  conv => whnf
  with_reducible refine ⟨_, _, cK _ _, ?_⟩
  conv => whnf
  with_reducible refine ⟨_, _, cN _ _, ?_⟩
  conv => whnf
  ((with_reducible cases z0 : nanoOk sn) <;> try exact Bool.noConfusion (Eq.trans (Eq.symm z0) hno))
  conv => whnf
  with_reducible refine ⟨_, _, cF _ _, ?_⟩
  conv => whnf
  (refine call_inline (fn := Try.f54) rfl Try.func54 rfl rfl ?_)
  conv => whnf
  with_reducible refine ⟨_, _, cA _ _ _, ?_⟩
  conv => whnf
  (refine ⟨by kernel_rfl, ?_⟩)
  conv => whnf
  (refine ⟨by kernel_rfl, ?_⟩)
  conv => whnf
  (refine call_inline (fn := Try.f69) rfl Try.func69 rfl rfl ?_)
  conv => whnf
  (refine runK_ret (ev_indexSl (sz := 25) rfl rfl rfl rfl hn0 hn2) ?_)
  conv => whnf
  (refine runK_ret (ev_loadV (z := 1) (v := .int .u32 x.kind) rfl rfl rfl ((nodesA_cell hmx 0 (by decide)).trans rfl)) ?_)
  conv => whnf
  (refine ⟨by kernel_rfl, ?_⟩)
  conv => whnf
  ((with_reducible cases z1 : x.kind != Int.ofNat 2) <;> try exact Bool.noConfusion (Eq.trans (Eq.symm z1) hk))
  conv => whnf
  with_reducible refine ⟨_, _, cS _ _ _, ?_⟩
  conv => whnf
  ((with_reducible cases z2 : ne != Int.ofNat 0) <;> try exact Bool.noConfusion (Eq.trans (Eq.symm z2) hns))
  conv => whnf
  (refine ⟨by kernel_rfl, ?_⟩)
  conv => whnf
  rfl
set_option maxHeartbeats 16000000 in
theorem look_lookup_may (m : Nat) (from_ : FuncId) (h : H) (ns : List NodeS) (t : Bool) (gen : Int) (c : CredS) (hc : c.ok) (a : ArgsS) (ha : a.ok) (ss sn : Int) (bo : Nat → Int) (hok : ∀ x ∈ ns, x.fit) (hlen : ns.length ≤ 1025) (hlen2 : ns ≠ []) (hK : ∀ (f : FuncId) (h : H), evCall TE (m + 29) f (.fn 7 [] []) [.agg [.sl (nodesA ns) ns.length t, .int .u32 gen]] h = some (.ret (.bool true), h)) (hp : a.proc = 3) (hno : nanoOk sn = true) (n : Int) (x : NodeS) (hn : thereS ns n = true) (hx : ns[n.toNat]? = some x) (hF : ∀ (f : FuncId) (h : H), evCall TE (m + 29) f (.fn 10 [] []) [.agg [.sl (nodesA ns) ns.length t, .int .u32 gen], a.h] h = some (.ret (.tup [.int .i64 n, .int .u32 0]), h)) (tt : Bool) (hsl : a.h = .sl (numsA .u8 a.hl) a.hl.length tt) (hk : (x.kind != 2) = false) (hnl : a.name.length ≤ 140737488351232) (hns : (nameSt a.name != 0) = false) (hmay : mayX x c 1 = false) : evCall TE (m + 30) from_ (.fn 9 [] []) [.agg [.sl (nodesA ns) ns.length t, .int .u32 gen], .agg (credL c), .agg (argL a), .agg (worldL ss sn bo)] h = some (.ret (.tup [.agg [.sl (nodesA (ns.map cloneN)) ns.length true, .int .u32 gen], .agg (ansA a.proc { stat := 13, hd := true, dir := attrsS x n })]), h) := by
  have cT : ∀ (h : H), (evAll TE (m + 29)).1 9 (.fn 30 [] []) [.agg [.sl (nodesA ns) ns.length t, .int .u32 gen]] h = some (.ret (.agg [.sl (nodesA (ns.map cloneN)) ns.length true, .int .u32 gen]), h) := fun h => twinL_c (m + 27) h ns t gen hok hlen hlen2
  have cD : ∀ (f : FuncId) (h : H), (evAll TE (m + 29)).1 f (.fn 32 [] []) [.int .u32 a.proc] h = some (.ret (.bool (doesS a.proc)), h) := fun f h => does_c (m + 27) f h a.proc
  have cK : ∀ (f : FuncId) (h : H), (evAll TE (m + 29)).1 f (.fn 7 [] []) [.agg [.sl (nodesA ns) ns.length t, .int .u32 gen]] h = some (.ret (.bool true), h) := hK
  have cN : ∀ (f : FuncId) (h : H), (evAll TE (m + 29)).1 f (.fn 26 [] []) [.agg [.int .u32 ss, .int .u32 sn]] h = some (.ret (.bool (nanoOk sn)), h) := fun f h => times_c (m + 28) f h ss sn
  have hone1 := cred_one hc
  have hone2 := args_one ha
  have hone3 := work_one (ns := ns) (gen := gen) (ss := ss) (sn := sn) (bo := bo) hc ha
  have htop3 := work_top (ns := ns) (gen := gen) (ss := ss) (sn := sn) (bo := bo) hc ha
  clear hK
  have hcl : cleanL [.agg [.sl (nodesA ns) ns.length t, .int .u32 gen], .agg (credL c), .agg (argL a), .agg (worldL ss sn bo)] = true := by
    have h1 := row_clean hc.1
    have h2 := row_clean ha.h
    have h3 := row_clean ha.h2
    have h4 := row_clean ha.data
    simp [cleanL, AV.clean, credL, argL, worldL, h1, h2, h3, h4]
  have cF : ∀ (f : FuncId) (h : H), (evAll TE (m + 29)).1 f (.fn 10 [] []) [.agg [.sl (nodesA ns) ns.length t, .int .u32 gen], a.h] h = some (.ret (.tup [.int .i64 n, .int .u32 0]), h) := hF
  have hd : doesS a.proc = true := by rw [hp]; rfl
  have hm : thereS (ns.map cloneN) n = true := by rw [thereS_clone]; exact hn
  have hmx : (ns.map cloneN)[n.toNat]? = some (cloneN x) := by rw [List.getElem?_map, hx]; rfl
  have hml : (ns.map cloneN).length = ns.length := List.length_map ..
  have hxf := hok x (List.mem_of_getElem? hx)
  have hmo : (cloneN x).ok := ⟨bytesC_ok hxf.1.1, entsC_ok hxf.1.2⟩
  have hmv : nodesOk (.sl (nodesA (ns.map cloneN)) ns.length true) (ns.map cloneN) := .inr ⟨true, by rw [hml]⟩
  obtain ⟨hn1, hn2, _⟩ := there_facts hn
  have hn0 : 0 ≤ n := by omega
  have cA : ∀ (k : Nat) (f : FuncId) (h : H), (evAll TE (k + 2)).1 f (.fn 37 [] []) [.agg [.sl (nodesA (ns.map cloneN)) ns.length true, .int .u32 gen], .int .i64 n] h = some (.ret (.tup [.agg (attrsS x n), .bool true]), h) := fun k f h => attrs_some k f h _ _ hmv gen n (cloneN x) hm hmx hmo
  clear hF
  have cS : ∀ (k : Nat) (f : FuncId) (h : H), (evAll TE (k + 4)).1 f (.fn 45 [] []) [.str a.name] h = some (.ret (.int .u32 (nameSt a.name)), h) := fun k f h => name_c k f h a.name hnl
  obtain ⟨ne, hne⟩ : ∃ e, e = nameSt a.name := ⟨_, rfl⟩
  rw [← hne] at cS hns
  have cM : ∀ (k : Nat) (f : FuncId) (h : H), (evAll TE (k + 4)).1 f (.fn 15 [] []) [.agg [.sl (nodesA (ns.map cloneN)) ns.length true, .int .u32 gen], .int .i64 n, credA c, .int .u32 1] h = some (.ret (.bool (mayX x c 1)), h) := fun k f h => may_some k f h _ _ hmv gen n c 1 hc (cloneN x) hm hmx hmo
  obtain ⟨my, hmy⟩ : ∃ b, b = mayX x c 1 := ⟨_, rfl⟩
  rw [← hmy] at cM hmay
  unfold attrsS at cA ⊢
  generalize IntKind.wrap .u64 (sizeS x) = sz at cA ⊢
  generalize IntKind.wrap .u32 x.links = lk at cA ⊢
  generalize IntKind.wrap .u64 n = idn at cA ⊢
  obtain ⟨p, hv, hl, nm, h2, h2l, nm2, st, hasG, gs, gn, bits, off, cnt, mx, stb, dat, datl, tg, how, kd, vf, ck⟩ := a
  dsimp only at hsl cD cF hd hp hone2 hone3 htop3 hcl cS ⊢
  subst hsl
  subst hp
  have hcg := hc.1
  obtain ⟨cu, cg, cgs, cl⟩ := c
  unfold credA at cM
  dsimp only at hcg cM hone1 hone3 htop3 hcl ⊢
  rcases hcg with ⟨rfl, rfl⟩ | ⟨tc, rfl⟩
  · refine call_clean (fn := Try.f9) rfl Try.func9 rfl rfl hcl rfl rfl (Nat.le_of_ble_eq_true rfl) ?_
    conv => whnf
    (refine runK_ret (ev_box rfl hone2) ?_)
    conv => whnf
    with_reducible refine ⟨_, _, cT _, ?_⟩
    conv => whnf
    (refine ⟨by kernel_rfl, ?_⟩)
    conv => whnf
    (refine runK_ret (ev_box rfl hone2) ?_)
    conv => whnf
    (refine listK_of (if_pos (Nat.le_trans (Nat.le_of_eq htop3) (Nat.zero_le _))) ?_)
    conv => whnf
    (refine ⟨by kernel_rfl, ?_⟩)
    conv => whnf
    (refine call_raw (fn := Try.f31) rfl Try.func31 rfl rfl (Nat.le_of_ble_eq_true rfl) ?_)
    conv => whnf
    (refine ⟨by kernel_rfl, ?_⟩)
    conv => whnf
    with_reducible refine ⟨_, _, cD _ _, ?_⟩
    conv => whnf
    with_reducible refine ⟨_, _, cK _ _, ?_⟩
    conv => whnf
    with_reducible refine ⟨_, _, cN _ _, ?_⟩
    conv => whnf
    ((with_reducible cases z0 : nanoOk sn) <;> try exact Bool.noConfusion (Eq.trans (Eq.symm z0) hno))
    conv => whnf
    with_reducible refine ⟨_, _, cF _ _, ?_⟩
    conv => whnf
    (refine call_inline (fn := Try.f54) rfl Try.func54 rfl rfl ?_)
    conv => whnf
    with_reducible refine ⟨_, _, cA _ _ _, ?_⟩
    conv => whnf
    (refine ⟨by kernel_rfl, ?_⟩)
    conv => whnf
    (refine ⟨by kernel_rfl, ?_⟩)
    conv => whnf
    (refine call_inline (fn := Try.f69) rfl Try.func69 rfl rfl ?_)
    conv => whnf
    (refine runK_ret (ev_indexSl (sz := 25) rfl rfl rfl rfl hn0 hn2) ?_)
    conv => whnf
    (refine runK_ret (ev_loadV (z := 1) (v := .int .u32 x.kind) rfl rfl rfl ((nodesA_cell hmx 0 (by decide)).trans rfl)) ?_)
    conv => whnf
    (refine ⟨by kernel_rfl, ?_⟩)
    conv => whnf
    ((with_reducible cases z1 : x.kind != Int.ofNat 2) <;> try exact Bool.noConfusion (Eq.trans (Eq.symm z1) hk))
    conv => whnf
    with_reducible refine ⟨_, _, cS _ _ _, ?_⟩
    conv => whnf
    ((with_reducible cases z2 : ne != Int.ofNat 0) <;> try exact Bool.noConfusion (Eq.trans (Eq.symm z2) hns))
    conv => whnf
    with_reducible refine ⟨_, _, cM _ _ _, ?_⟩
    conv => whnf
    (refine ⟨by kernel_rfl, ?_⟩)
    conv => whnf
    (refine ⟨by kernel_rfl, ?_⟩)
    conv => whnf
    ((with_reducible cases z3 : my) <;> try exact Bool.noConfusion (Eq.trans (Eq.symm z3) hmay))
    conv => whnf
    (refine ⟨by kernel_rfl, ?_⟩)
    conv => whnf
    rfl
  · refine call_clean (fn := Try.f9) rfl Try.func9 rfl rfl hcl rfl rfl (Nat.le_of_ble_eq_true rfl) ?_
    conv => whnf
    (refine runK_ret (ev_box rfl hone2) ?_)
    conv => whnf
    with_reducible refine ⟨_, _, cT _, ?_⟩
    conv => whnf
    (refine ⟨by kernel_rfl, ?_⟩)
    conv => whnf
    (refine runK_ret (ev_box rfl hone2) ?_)
    conv => whnf
    (refine listK_of (if_pos (Nat.le_trans (Nat.le_of_eq htop3) (Nat.zero_le _))) ?_)
    conv => whnf
    (refine ⟨by kernel_rfl, ?_⟩)
    conv => whnf
    (refine call_raw (fn := Try.f31) rfl Try.func31 rfl rfl (Nat.le_of_ble_eq_true rfl) ?_)
    conv => whnf
    (refine ⟨by kernel_rfl, ?_⟩)
    conv => whnf
    with_reducible refine ⟨_, _, cD _ _, ?_⟩
    conv => whnf
    with_reducible refine ⟨_, _, cK _ _, ?_⟩
    conv => whnf
    with_reducible refine ⟨_, _, cN _ _, ?_⟩
    conv => whnf
    ((with_reducible cases z0 : nanoOk sn) <;> try exact Bool.noConfusion (Eq.trans (Eq.symm z0) hno))
    conv => whnf
    with_reducible refine ⟨_, _, cF _ _, ?_⟩
    conv => whnf
    (refine call_inline (fn := Try.f54) rfl Try.func54 rfl rfl ?_)
    conv => whnf
    with_reducible refine ⟨_, _, cA _ _ _, ?_⟩
    conv => whnf
    (refine ⟨by kernel_rfl, ?_⟩)
    conv => whnf
    (refine ⟨by kernel_rfl, ?_⟩)
    conv => whnf
    (refine call_inline (fn := Try.f69) rfl Try.func69 rfl rfl ?_)
    conv => whnf
    (refine runK_ret (ev_indexSl (sz := 25) rfl rfl rfl rfl hn0 hn2) ?_)
    conv => whnf
    (refine runK_ret (ev_loadV (z := 1) (v := .int .u32 x.kind) rfl rfl rfl ((nodesA_cell hmx 0 (by decide)).trans rfl)) ?_)
    conv => whnf
    (refine ⟨by kernel_rfl, ?_⟩)
    conv => whnf
    ((with_reducible cases z1 : x.kind != Int.ofNat 2) <;> try exact Bool.noConfusion (Eq.trans (Eq.symm z1) hk))
    conv => whnf
    with_reducible refine ⟨_, _, cS _ _ _, ?_⟩
    conv => whnf
    ((with_reducible cases z2 : ne != Int.ofNat 0) <;> try exact Bool.noConfusion (Eq.trans (Eq.symm z2) hns))
    conv => whnf
    with_reducible refine ⟨_, _, cM _ _ _, ?_⟩
    conv => whnf
    (refine ⟨by kernel_rfl, ?_⟩)
    conv => whnf
    (refine ⟨by kernel_rfl, ?_⟩)
    conv => whnf
    ((with_reducible cases z3 : my) <;> try exact Bool.noConfusion (Eq.trans (Eq.symm z3) hmay))
    conv => whnf
    (refine ⟨by kernel_rfl, ?_⟩)
    conv => whnf
    rfl
set_option maxHeartbeats 16000000 in
theorem look_lookup_none (m : Nat) (from_ : FuncId) (h : H) (ns : List NodeS) (t : Bool) (gen : Int) (c : CredS) (hc : c.ok) (a : ArgsS) (ha : a.ok) (ss sn : Int) (bo : Nat → Int) (hok : ∀ x ∈ ns, x.fit) (hlen : ns.length ≤ 1025) (hlen2 : ns ≠ []) (hK : ∀ (f : FuncId) (h : H), evCall TE (m + 29) f (.fn 7 [] []) [.agg [.sl (nodesA ns) ns.length t, .int .u32 gen]] h = some (.ret (.bool true), h)) (hp : a.proc = 3) (hno : nanoOk sn = true) (n : Int) (x : NodeS) (hn : thereS ns n = true) (hx : ns[n.toNat]? = some x) (hF : ∀ (f : FuncId) (h : H), evCall TE (m + 29) f (.fn 10 [] []) [.agg [.sl (nodesA ns) ns.length t, .int .u32 gen], a.h] h = some (.ret (.tup [.int .i64 n, .int .u32 0]), h)) (tt : Bool) (hsl : a.h = .sl (numsA .u8 a.hl) a.hl.length tt) (hk : (x.kind != 2) = false) (hnl : a.name.length ≤ 140737488351232) (hns : (nameSt a.name != 0) = false) (hmay : mayX x c 1 = true) (en : Int) (hen : entryS (ns.map cloneN) n a.name = en) (hen0 : (en == 0) = true) : evCall TE (m + 30) from_ (.fn 9 [] []) [.agg [.sl (nodesA ns) ns.length t, .int .u32 gen], .agg (credL c), .agg (argL a), .agg (worldL ss sn bo)] h = some (.ret (.tup [.agg [.sl (nodesA (ns.map cloneN)) ns.length true, .int .u32 gen], .agg (ansA a.proc { stat := 2, hd := true, dir := attrsS x n })]), h) := by
  have cT : ∀ (h : H), (evAll TE (m + 29)).1 9 (.fn 30 [] []) [.agg [.sl (nodesA ns) ns.length t, .int .u32 gen]] h = some (.ret (.agg [.sl (nodesA (ns.map cloneN)) ns.length true, .int .u32 gen]), h) := fun h => twinL_c (m + 27) h ns t gen hok hlen hlen2
  have cD : ∀ (f : FuncId) (h : H), (evAll TE (m + 29)).1 f (.fn 32 [] []) [.int .u32 a.proc] h = some (.ret (.bool (doesS a.proc)), h) := fun f h => does_c (m + 27) f h a.proc
  have cK : ∀ (f : FuncId) (h : H), (evAll TE (m + 29)).1 f (.fn 7 [] []) [.agg [.sl (nodesA ns) ns.length t, .int .u32 gen]] h = some (.ret (.bool true), h) := hK
  have cN : ∀ (f : FuncId) (h : H), (evAll TE (m + 29)).1 f (.fn 26 [] []) [.agg [.int .u32 ss, .int .u32 sn]] h = some (.ret (.bool (nanoOk sn)), h) := fun f h => times_c (m + 28) f h ss sn
  have hone1 := cred_one hc
  have hone2 := args_one ha
  have hone3 := work_one (ns := ns) (gen := gen) (ss := ss) (sn := sn) (bo := bo) hc ha
  have htop3 := work_top (ns := ns) (gen := gen) (ss := ss) (sn := sn) (bo := bo) hc ha
  clear hK
  have hcl : cleanL [.agg [.sl (nodesA ns) ns.length t, .int .u32 gen], .agg (credL c), .agg (argL a), .agg (worldL ss sn bo)] = true := by
    have h1 := row_clean hc.1
    have h2 := row_clean ha.h
    have h3 := row_clean ha.h2
    have h4 := row_clean ha.data
    simp [cleanL, AV.clean, credL, argL, worldL, h1, h2, h3, h4]
  have cF : ∀ (f : FuncId) (h : H), (evAll TE (m + 29)).1 f (.fn 10 [] []) [.agg [.sl (nodesA ns) ns.length t, .int .u32 gen], a.h] h = some (.ret (.tup [.int .i64 n, .int .u32 0]), h) := hF
  have hd : doesS a.proc = true := by rw [hp]; rfl
  have hm : thereS (ns.map cloneN) n = true := by rw [thereS_clone]; exact hn
  have hmx : (ns.map cloneN)[n.toNat]? = some (cloneN x) := by rw [List.getElem?_map, hx]; rfl
  have hml : (ns.map cloneN).length = ns.length := List.length_map ..
  have hxf := hok x (List.mem_of_getElem? hx)
  have hmo : (cloneN x).ok := ⟨bytesC_ok hxf.1.1, entsC_ok hxf.1.2⟩
  have hmv : nodesOk (.sl (nodesA (ns.map cloneN)) ns.length true) (ns.map cloneN) := .inr ⟨true, by rw [hml]⟩
  obtain ⟨hn1, hn2, _⟩ := there_facts hn
  have hn0 : 0 ≤ n := by omega
  have cA : ∀ (k : Nat) (f : FuncId) (h : H), (evAll TE (k + 2)).1 f (.fn 37 [] []) [.agg [.sl (nodesA (ns.map cloneN)) ns.length true, .int .u32 gen], .int .i64 n] h = some (.ret (.tup [.agg (attrsS x n), .bool true]), h) := fun k f h => attrs_some k f h _ _ hmv gen n (cloneN x) hm hmx hmo
  clear hF
  have cS : ∀ (k : Nat) (f : FuncId) (h : H), (evAll TE (k + 4)).1 f (.fn 45 [] []) [.str a.name] h = some (.ret (.int .u32 (nameSt a.name)), h) := fun k f h => name_c k f h a.name hnl
  obtain ⟨ne, hne⟩ : ∃ e, e = nameSt a.name := ⟨_, rfl⟩
  rw [← hne] at cS hns
  have cM : ∀ (k : Nat) (f : FuncId) (h : H), (evAll TE (k + 4)).1 f (.fn 15 [] []) [.agg [.sl (nodesA (ns.map cloneN)) ns.length true, .int .u32 gen], .int .i64 n, credA c, .int .u32 1] h = some (.ret (.bool (mayX x c 1)), h) := fun k f h => may_some k f h _ _ hmv gen n c 1 hc (cloneN x) hm hmx hmo
  obtain ⟨my, hmy⟩ : ∃ b, b = mayX x c 1 := ⟨_, rfl⟩
  rw [← hmy] at cM hmay
  have cE : ∀ (k : Nat) (f : FuncId) (h : H), (evAll TE (k + 4)).1 f (.fn 70 [] []) [.agg [.sl (nodesA (ns.map cloneN)) ns.length true, .int .u32 gen], .int .i64 n, .str a.name] h = some (.ret (.int .i64 en), h) := fun k f h => by
    have := entry_c k f h (ns.map cloneN) true gen n a.name (fun y hy => by
      obtain ⟨z, hz, rfl⟩ := List.mem_map.1 hy
      exact ⟨⟨bytesC_ok (hok z hz).1.1, entsC_ok (hok z hz).1.2⟩, by have := (hok z hz).2.2; show z.ents.length ≤ _; omega⟩)
    rw [hml, hen] at this
    exact this
  unfold attrsS at cA ⊢
  generalize IntKind.wrap .u64 (sizeS x) = sz at cA ⊢
  generalize IntKind.wrap .u32 x.links = lk at cA ⊢
  generalize IntKind.wrap .u64 n = idn at cA ⊢
  obtain ⟨p, hv, hl, nm, h2, h2l, nm2, st, hasG, gs, gn, bits, off, cnt, mx, stb, dat, datl, tg, how, kd, vf, ck⟩ := a
  dsimp only at hsl cD cF hd hp hone2 hone3 htop3 hcl cS cE hen ⊢
  subst hsl
  subst hp
  have hcg := hc.1
  obtain ⟨cu, cg, cgs, cl⟩ := c
  unfold credA at cM
  dsimp only at hcg cM hone1 hone3 htop3 hcl ⊢
  rcases hcg with ⟨rfl, rfl⟩ | ⟨tc, rfl⟩
  · refine call_clean (fn := Try.f9) rfl Try.func9 rfl rfl hcl rfl rfl (Nat.le_of_ble_eq_true rfl) ?_
    conv => whnf
    (refine runK_ret (ev_box rfl hone2) ?_)
    conv => whnf
    with_reducible refine ⟨_, _, cT _, ?_⟩
    conv => whnf
    (refine ⟨by kernel_rfl, ?_⟩)
    conv => whnf
    (refine runK_ret (ev_box rfl hone2) ?_)
    conv => whnf
    (refine listK_of (if_pos (Nat.le_trans (Nat.le_of_eq htop3) (Nat.zero_le _))) ?_)
    conv => whnf
    (refine ⟨by kernel_rfl, ?_⟩)
    conv => whnf
    (refine call_raw (fn := Try.f31) rfl Try.func31 rfl rfl (Nat.le_of_ble_eq_true rfl) ?_)
    conv => whnf
    (refine ⟨by kernel_rfl, ?_⟩)
    conv => whnf
    with_reducible refine ⟨_, _, cD _ _, ?_⟩
    conv => whnf
    with_reducible refine ⟨_, _, cK _ _, ?_⟩
    conv => whnf
    with_reducible refine ⟨_, _, cN _ _, ?_⟩
    conv => whnf
    ((with_reducible cases z0 : nanoOk sn) <;> try exact Bool.noConfusion (Eq.trans (Eq.symm z0) hno))
    conv => whnf
    with_reducible refine ⟨_, _, cF _ _, ?_⟩
    conv => whnf
    (refine call_inline (fn := Try.f54) rfl Try.func54 rfl rfl ?_)
    conv => whnf
    with_reducible refine ⟨_, _, cA _ _ _, ?_⟩
    conv => whnf
    (refine ⟨by kernel_rfl, ?_⟩)
    conv => whnf
    (refine ⟨by kernel_rfl, ?_⟩)
    conv => whnf
    (refine call_inline (fn := Try.f69) rfl Try.func69 rfl rfl ?_)
    conv => whnf
    (refine runK_ret (ev_indexSl (sz := 25) rfl rfl rfl rfl hn0 hn2) ?_)
    conv => whnf
    (refine runK_ret (ev_loadV (z := 1) (v := .int .u32 x.kind) rfl rfl rfl ((nodesA_cell hmx 0 (by decide)).trans rfl)) ?_)
    conv => whnf
    (refine ⟨by kernel_rfl, ?_⟩)
    conv => whnf
    ((with_reducible cases z1 : x.kind != Int.ofNat 2) <;> try exact Bool.noConfusion (Eq.trans (Eq.symm z1) hk))
    conv => whnf
    with_reducible refine ⟨_, _, cS _ _ _, ?_⟩
    conv => whnf
    ((with_reducible cases z2 : ne != Int.ofNat 0) <;> try exact Bool.noConfusion (Eq.trans (Eq.symm z2) hns))
    conv => whnf
    with_reducible refine ⟨_, _, cM _ _ _, ?_⟩
    conv => whnf
    (refine ⟨by kernel_rfl, ?_⟩)
    conv => whnf
    (refine ⟨by kernel_rfl, ?_⟩)
    conv => whnf
    ((with_reducible cases z3 : my) <;> try exact Bool.noConfusion (Eq.trans (Eq.symm z3) hmay))
    conv => whnf
    with_reducible refine ⟨_, _, cE _ _ _, ?_⟩
    conv => whnf
    (refine ⟨by kernel_rfl, ?_⟩)
    conv => whnf
    (refine ⟨by kernel_rfl, ?_⟩)
    conv => whnf
    ((with_reducible cases z4 : en == Int.ofNat 0) <;> try exact Bool.noConfusion (Eq.trans (Eq.symm z4) hen0))
    conv => whnf
    (refine ⟨by kernel_rfl, ?_⟩)
    conv => whnf
    rfl
  · refine call_clean (fn := Try.f9) rfl Try.func9 rfl rfl hcl rfl rfl (Nat.le_of_ble_eq_true rfl) ?_
    conv => whnf
    (refine runK_ret (ev_box rfl hone2) ?_)
    conv => whnf
    with_reducible refine ⟨_, _, cT _, ?_⟩
    conv => whnf
    (refine ⟨by kernel_rfl, ?_⟩)
    conv => whnf
    (refine runK_ret (ev_box rfl hone2) ?_)
    conv => whnf
    (refine listK_of (if_pos (Nat.le_trans (Nat.le_of_eq htop3) (Nat.zero_le _))) ?_)
    conv => whnf
    (refine ⟨by kernel_rfl, ?_⟩)
    conv => whnf
    (refine call_raw (fn := Try.f31) rfl Try.func31 rfl rfl (Nat.le_of_ble_eq_true rfl) ?_)
    conv => whnf
    (refine ⟨by kernel_rfl, ?_⟩)
    conv => whnf
    with_reducible refine ⟨_, _, cD _ _, ?_⟩
    conv => whnf
    with_reducible refine ⟨_, _, cK _ _, ?_⟩
    conv => whnf
    with_reducible refine ⟨_, _, cN _ _, ?_⟩
    conv => whnf
    ((with_reducible cases z0 : nanoOk sn) <;> try exact Bool.noConfusion (Eq.trans (Eq.symm z0) hno))
    conv => whnf
    with_reducible refine ⟨_, _, cF _ _, ?_⟩
    conv => whnf
    (refine call_inline (fn := Try.f54) rfl Try.func54 rfl rfl ?_)
    conv => whnf
    with_reducible refine ⟨_, _, cA _ _ _, ?_⟩
    conv => whnf
    (refine ⟨by kernel_rfl, ?_⟩)
    conv => whnf
    (refine ⟨by kernel_rfl, ?_⟩)
    conv => whnf
    (refine call_inline (fn := Try.f69) rfl Try.func69 rfl rfl ?_)
    conv => whnf
    (refine runK_ret (ev_indexSl (sz := 25) rfl rfl rfl rfl hn0 hn2) ?_)
    conv => whnf
    (refine runK_ret (ev_loadV (z := 1) (v := .int .u32 x.kind) rfl rfl rfl ((nodesA_cell hmx 0 (by decide)).trans rfl)) ?_)
    conv => whnf
    (refine ⟨by kernel_rfl, ?_⟩)
    conv => whnf
    ((with_reducible cases z1 : x.kind != Int.ofNat 2) <;> try exact Bool.noConfusion (Eq.trans (Eq.symm z1) hk))
    conv => whnf
    with_reducible refine ⟨_, _, cS _ _ _, ?_⟩
    conv => whnf
    ((with_reducible cases z2 : ne != Int.ofNat 0) <;> try exact Bool.noConfusion (Eq.trans (Eq.symm z2) hns))
    conv => whnf
    with_reducible refine ⟨_, _, cM _ _ _, ?_⟩
    conv => whnf
    (refine ⟨by kernel_rfl, ?_⟩)
    conv => whnf
    (refine ⟨by kernel_rfl, ?_⟩)
    conv => whnf
    ((with_reducible cases z3 : my) <;> try exact Bool.noConfusion (Eq.trans (Eq.symm z3) hmay))
    conv => whnf
    with_reducible refine ⟨_, _, cE _ _ _, ?_⟩
    conv => whnf
    (refine ⟨by kernel_rfl, ?_⟩)
    conv => whnf
    (refine ⟨by kernel_rfl, ?_⟩)
    conv => whnf
    ((with_reducible cases z4 : en == Int.ofNat 0) <;> try exact Bool.noConfusion (Eq.trans (Eq.symm z4) hen0))
    conv => whnf
    (refine ⟨by kernel_rfl, ?_⟩)
    conv => whnf
    rfl
set_option maxHeartbeats 16000000 in
theorem look_lookup (m : Nat) (from_ : FuncId) (h : H) (ns : List NodeS) (t : Bool) (gen : Int) (c : CredS) (hc : c.ok) (a : ArgsS) (ha : a.ok) (ss sn : Int) (bo : Nat → Int) (hok : ∀ x ∈ ns, x.fit) (hlen : ns.length ≤ 1025) (hlen2 : ns ≠ []) (hK : ∀ (f : FuncId) (h : H), evCall TE (m + 29) f (.fn 7 [] []) [.agg [.sl (nodesA ns) ns.length t, .int .u32 gen]] h = some (.ret (.bool true), h)) (hp : a.proc = 3) (hno : nanoOk sn = true) (n : Int) (x : NodeS) (hn : thereS ns n = true) (hx : ns[n.toNat]? = some x) (hF : ∀ (f : FuncId) (h : H), evCall TE (m + 29) f (.fn 10 [] []) [.agg [.sl (nodesA ns) ns.length t, .int .u32 gen], a.h] h = some (.ret (.tup [.int .i64 n, .int .u32 0]), h)) (tt : Bool) (hsl : a.h = .sl (numsA .u8 a.hl) a.hl.length tt) (hk : (x.kind != 2) = false) (hnl : a.name.length ≤ 140737488351232) (hns : (nameSt a.name != 0) = false) (hmay : mayX x c 1 = true) (en : Int) (hen : entryS (ns.map cloneN) n a.name = en) (hen0 : (en == 0) = false) (x2 : NodeS) (hen1 : thereS ns en = true) (hen2 : ¬ en > 1024) (hx2 : ns[en.toNat]? = some x2) : evCall TE (m + 30) from_ (.fn 9 [] []) [.agg [.sl (nodesA ns) ns.length t, .int .u32 gen], .agg (credL c), .agg (argL a), .agg (worldL ss sn bo)] h = some (.ret (.tup [.agg [.sl (nodesA (ns.map cloneN)) ns.length true, .int .u32 gen], .agg (ansA a.proc { stat := 0, hd := true, dir := attrsS x n, hh := true, h := .sl (numsA .u8 (bytesS (IntKind.wrap .u32 en) x2.gen)) 16 false, ha := true, at_ := attrsS x2 en })]), h) := by
  have cT : ∀ (h : H), (evAll TE (m + 29)).1 9 (.fn 30 [] []) [.agg [.sl (nodesA ns) ns.length t, .int .u32 gen]] h = some (.ret (.agg [.sl (nodesA (ns.map cloneN)) ns.length true, .int .u32 gen]), h) := fun h => twinL_c (m + 27) h ns t gen hok hlen hlen2
  have cD : ∀ (f : FuncId) (h : H), (evAll TE (m + 29)).1 f (.fn 32 [] []) [.int .u32 a.proc] h = some (.ret (.bool (doesS a.proc)), h) := fun f h => does_c (m + 27) f h a.proc
  have cK : ∀ (f : FuncId) (h : H), (evAll TE (m + 29)).1 f (.fn 7 [] []) [.agg [.sl (nodesA ns) ns.length t, .int .u32 gen]] h = some (.ret (.bool true), h) := hK
  have cN : ∀ (f : FuncId) (h : H), (evAll TE (m + 29)).1 f (.fn 26 [] []) [.agg [.int .u32 ss, .int .u32 sn]] h = some (.ret (.bool (nanoOk sn)), h) := fun f h => times_c (m + 28) f h ss sn
  have hone1 := cred_one hc
  have hone2 := args_one ha
  have hone3 := work_one (ns := ns) (gen := gen) (ss := ss) (sn := sn) (bo := bo) hc ha
  have htop3 := work_top (ns := ns) (gen := gen) (ss := ss) (sn := sn) (bo := bo) hc ha
  clear hK
  have hcl : cleanL [.agg [.sl (nodesA ns) ns.length t, .int .u32 gen], .agg (credL c), .agg (argL a), .agg (worldL ss sn bo)] = true := by
    have h1 := row_clean hc.1
    have h2 := row_clean ha.h
    have h3 := row_clean ha.h2
    have h4 := row_clean ha.data
    simp [cleanL, AV.clean, credL, argL, worldL, h1, h2, h3, h4]
  have cF : ∀ (f : FuncId) (h : H), (evAll TE (m + 29)).1 f (.fn 10 [] []) [.agg [.sl (nodesA ns) ns.length t, .int .u32 gen], a.h] h = some (.ret (.tup [.int .i64 n, .int .u32 0]), h) := hF
  have hd : doesS a.proc = true := by rw [hp]; rfl
  have hm : thereS (ns.map cloneN) n = true := by rw [thereS_clone]; exact hn
  have hmx : (ns.map cloneN)[n.toNat]? = some (cloneN x) := by rw [List.getElem?_map, hx]; rfl
  have hml : (ns.map cloneN).length = ns.length := List.length_map ..
  have hxf := hok x (List.mem_of_getElem? hx)
  have hmo : (cloneN x).ok := ⟨bytesC_ok hxf.1.1, entsC_ok hxf.1.2⟩
  have hmv : nodesOk (.sl (nodesA (ns.map cloneN)) ns.length true) (ns.map cloneN) := .inr ⟨true, by rw [hml]⟩
  obtain ⟨hn1, hn2, _⟩ := there_facts hn
  have hn0 : 0 ≤ n := by omega
  have cA : ∀ (k : Nat) (f : FuncId) (h : H), (evAll TE (k + 2)).1 f (.fn 37 [] []) [.agg [.sl (nodesA (ns.map cloneN)) ns.length true, .int .u32 gen], .int .i64 n] h = some (.ret (.tup [.agg (attrsS x n), .bool true]), h) := fun k f h => attrs_some k f h _ _ hmv gen n (cloneN x) hm hmx hmo
  clear hF
  have cS : ∀ (k : Nat) (f : FuncId) (h : H), (evAll TE (k + 4)).1 f (.fn 45 [] []) [.str a.name] h = some (.ret (.int .u32 (nameSt a.name)), h) := fun k f h => name_c k f h a.name hnl
  obtain ⟨ne, hne⟩ : ∃ e, e = nameSt a.name := ⟨_, rfl⟩
  rw [← hne] at cS hns
  have cM : ∀ (k : Nat) (f : FuncId) (h : H), (evAll TE (k + 4)).1 f (.fn 15 [] []) [.agg [.sl (nodesA (ns.map cloneN)) ns.length true, .int .u32 gen], .int .i64 n, credA c, .int .u32 1] h = some (.ret (.bool (mayX x c 1)), h) := fun k f h => may_some k f h _ _ hmv gen n c 1 hc (cloneN x) hm hmx hmo
  obtain ⟨my, hmy⟩ : ∃ b, b = mayX x c 1 := ⟨_, rfl⟩
  rw [← hmy] at cM hmay
  have cE : ∀ (k : Nat) (f : FuncId) (h : H), (evAll TE (k + 4)).1 f (.fn 70 [] []) [.agg [.sl (nodesA (ns.map cloneN)) ns.length true, .int .u32 gen], .int .i64 n, .str a.name] h = some (.ret (.int .i64 en), h) := fun k f h => by
    have := entry_c k f h (ns.map cloneN) true gen n a.name (fun y hy => by
      obtain ⟨z, hz, rfl⟩ := List.mem_map.1 hy
      exact ⟨⟨bytesC_ok (hok z hz).1.1, entsC_ok (hok z hz).1.2⟩, by have := (hok z hz).2.2; show z.ents.length ≤ _; omega⟩)
    rw [hml, hen] at this
    exact this
  have hm2 : thereS (ns.map cloneN) en = true := by rw [thereS_clone]; exact hen1
  have hmx2 : (ns.map cloneN)[en.toNat]? = some (cloneN x2) := by rw [List.getElem?_map, hx2]; rfl
  have hxf2 := hok x2 (List.mem_of_getElem? hx2)
  have hmo2 : (cloneN x2).ok := ⟨bytesC_ok hxf2.1.1, entsC_ok hxf2.1.2⟩
  have cA2 : ∀ (k : Nat) (f : FuncId) (h : H), (evAll TE (k + 2)).1 f (.fn 37 [] []) [.agg [.sl (nodesA (ns.map cloneN)) ns.length true, .int .u32 gen], .int .i64 en] h = some (.ret (.tup [.agg (attrsS x2 en), .bool true]), h) := fun k f h => attrs_some k f h _ _ hmv gen en (cloneN x2) hm2 hmx2 hmo2
  have cH : ∀ (k : Nat) (f : FuncId) (h : H), (evAll TE (k + 14)).1 f (.fn 13 [] []) [.agg [.sl (nodesA (ns.map cloneN)) ns.length true, .int .u32 gen], .int .i64 en] h = some (.ret (.tup [.sl (numsA .u8 (bytesS (IntKind.wrap .u32 en) x2.gen)) 16 false, .int .i64 0]), h) := fun k f h => by
    have := handle_c k f h _ _ hmv gen en
    have e : handleA (ns.map cloneN) en = .tup [.sl (numsA .u8 (bytesS (IntKind.wrap .u32 en) x2.gen)) 16 false, .int .i64 0] := by
      unfold handleA genS
      rw [hm2, decide_eq_false hen2, hmx2]
      rfl
    rw [e] at this
    exact this
  obtain ⟨hb, hhb⟩ : ∃ b, b = numsA .u8 (bytesS (IntKind.wrap .u32 en) x2.gen) := ⟨_, rfl⟩
  rw [← hhb] at cH ⊢
  unfold attrsS at cA cA2 ⊢
  generalize IntKind.wrap .u64 (sizeS x) = sz at cA cA2 ⊢
  generalize IntKind.wrap .u32 x.links = lk at cA cA2 ⊢
  generalize IntKind.wrap .u64 n = idn at cA cA2 ⊢
  generalize IntKind.wrap .u64 (sizeS x2) = sz2 at cA2 ⊢
  generalize IntKind.wrap .u32 x2.links = lk2 at cA2 ⊢
  generalize IntKind.wrap .u64 en = idn2 at cA2 ⊢
  obtain ⟨p, hv, hl, nm, h2, h2l, nm2, st, hasG, gs, gn, bits, off, cnt, mx, stb, dat, datl, tg, how, kd, vf, ck⟩ := a
  dsimp only at hsl cD cF hd hp hone2 hone3 htop3 hcl cS cE hen ⊢
  subst hsl
  subst hp
  have hcg := hc.1
  obtain ⟨cu, cg, cgs, cl⟩ := c
  unfold credA at cM
  dsimp only at hcg cM hone1 hone3 htop3 hcl ⊢
  rcases hcg with ⟨rfl, rfl⟩ | ⟨tc, rfl⟩
  · refine call_clean (fn := Try.f9) rfl Try.func9 rfl rfl hcl rfl rfl (Nat.le_of_ble_eq_true rfl) ?_
    conv => whnf
    (refine runK_ret (ev_box rfl hone2) ?_)
    conv => whnf
    with_reducible refine ⟨_, _, cT _, ?_⟩
    conv => whnf
    (refine ⟨by kernel_rfl, ?_⟩)
    conv => whnf
    (refine runK_ret (ev_box rfl hone2) ?_)
    conv => whnf
    (refine listK_of (if_pos (Nat.le_trans (Nat.le_of_eq htop3) (Nat.zero_le _))) ?_)
    conv => whnf
    (refine ⟨by kernel_rfl, ?_⟩)
    conv => whnf
    (refine call_raw (fn := Try.f31) rfl Try.func31 rfl rfl (Nat.le_of_ble_eq_true rfl) ?_)
    conv => whnf
    (refine ⟨by kernel_rfl, ?_⟩)
    conv => whnf
    with_reducible refine ⟨_, _, cD _ _, ?_⟩
    conv => whnf
    with_reducible refine ⟨_, _, cK _ _, ?_⟩
    conv => whnf
    with_reducible refine ⟨_, _, cN _ _, ?_⟩
    conv => whnf
    ((with_reducible cases z0 : nanoOk sn) <;> try exact Bool.noConfusion (Eq.trans (Eq.symm z0) hno))
    conv => whnf
    with_reducible refine ⟨_, _, cF _ _, ?_⟩
    conv => whnf
    (refine call_inline (fn := Try.f54) rfl Try.func54 rfl rfl ?_)
    conv => whnf
    with_reducible refine ⟨_, _, cA _ _ _, ?_⟩
    conv => whnf
    (refine ⟨by kernel_rfl, ?_⟩)
    conv => whnf
    (refine ⟨by kernel_rfl, ?_⟩)
    conv => whnf
    (refine call_inline (fn := Try.f69) rfl Try.func69 rfl rfl ?_)
    conv => whnf
    (refine runK_ret (ev_indexSl (sz := 25) rfl rfl rfl rfl hn0 hn2) ?_)
    conv => whnf
    (refine runK_ret (ev_loadV (z := 1) (v := .int .u32 x.kind) rfl rfl rfl ((nodesA_cell hmx 0 (by decide)).trans rfl)) ?_)
    conv => whnf
    (refine ⟨by kernel_rfl, ?_⟩)
    conv => whnf
    ((with_reducible cases z1 : x.kind != Int.ofNat 2) <;> try exact Bool.noConfusion (Eq.trans (Eq.symm z1) hk))
    conv => whnf
    with_reducible refine ⟨_, _, cS _ _ _, ?_⟩
    conv => whnf
    ((with_reducible cases z2 : ne != Int.ofNat 0) <;> try exact Bool.noConfusion (Eq.trans (Eq.symm z2) hns))
    conv => whnf
    with_reducible refine ⟨_, _, cM _ _ _, ?_⟩
    conv => whnf
    (refine ⟨by kernel_rfl, ?_⟩)
    conv => whnf
    (refine ⟨by kernel_rfl, ?_⟩)
    conv => whnf
    ((with_reducible cases z3 : my) <;> try exact Bool.noConfusion (Eq.trans (Eq.symm z3) hmay))
    conv => whnf
    with_reducible refine ⟨_, _, cE _ _ _, ?_⟩
    conv => whnf
    (refine ⟨by kernel_rfl, ?_⟩)
    conv => whnf
    (refine ⟨by kernel_rfl, ?_⟩)
    conv => whnf
    ((with_reducible cases z4 : en == Int.ofNat 0) <;> try exact Bool.noConfusion (Eq.trans (Eq.symm z4) hen0))
    conv => whnf
    with_reducible refine ⟨_, _, cH _ _ _, ?_⟩
    conv => whnf
    (refine ⟨by kernel_rfl, ?_⟩)
    conv => whnf
    (refine ⟨by kernel_rfl, ?_⟩)
    conv => whnf
    (refine call_inline (fn := Try.f53) rfl Try.func53 rfl rfl ?_)
    conv => whnf
    (refine call_inline (fn := Try.f68) rfl Try.func68 rfl rfl ?_)
    conv => whnf
    with_reducible refine ⟨_, _, cA2 _ _ _, ?_⟩
    conv => whnf
    (refine ⟨by kernel_rfl, ?_⟩)
    conv => whnf
    (refine ⟨by kernel_rfl, ?_⟩)
    conv => whnf
    (refine ⟨by kernel_rfl, ?_⟩)
    conv => whnf
    rfl
  · refine call_clean (fn := Try.f9) rfl Try.func9 rfl rfl hcl rfl rfl (Nat.le_of_ble_eq_true rfl) ?_
    conv => whnf
    (refine runK_ret (ev_box rfl hone2) ?_)
    conv => whnf
    with_reducible refine ⟨_, _, cT _, ?_⟩
    conv => whnf
    (refine ⟨by kernel_rfl, ?_⟩)
    conv => whnf
    (refine runK_ret (ev_box rfl hone2) ?_)
    conv => whnf
    (refine listK_of (if_pos (Nat.le_trans (Nat.le_of_eq htop3) (Nat.zero_le _))) ?_)
    conv => whnf
    (refine ⟨by kernel_rfl, ?_⟩)
    conv => whnf
    (refine call_raw (fn := Try.f31) rfl Try.func31 rfl rfl (Nat.le_of_ble_eq_true rfl) ?_)
    conv => whnf
    (refine ⟨by kernel_rfl, ?_⟩)
    conv => whnf
    with_reducible refine ⟨_, _, cD _ _, ?_⟩
    conv => whnf
    with_reducible refine ⟨_, _, cK _ _, ?_⟩
    conv => whnf
    with_reducible refine ⟨_, _, cN _ _, ?_⟩
    conv => whnf
    ((with_reducible cases z0 : nanoOk sn) <;> try exact Bool.noConfusion (Eq.trans (Eq.symm z0) hno))
    conv => whnf
    with_reducible refine ⟨_, _, cF _ _, ?_⟩
    conv => whnf
    (refine call_inline (fn := Try.f54) rfl Try.func54 rfl rfl ?_)
    conv => whnf
    with_reducible refine ⟨_, _, cA _ _ _, ?_⟩
    conv => whnf
    (refine ⟨by kernel_rfl, ?_⟩)
    conv => whnf
    (refine ⟨by kernel_rfl, ?_⟩)
    conv => whnf
    (refine call_inline (fn := Try.f69) rfl Try.func69 rfl rfl ?_)
    conv => whnf
    (refine runK_ret (ev_indexSl (sz := 25) rfl rfl rfl rfl hn0 hn2) ?_)
    conv => whnf
    (refine runK_ret (ev_loadV (z := 1) (v := .int .u32 x.kind) rfl rfl rfl ((nodesA_cell hmx 0 (by decide)).trans rfl)) ?_)
    conv => whnf
    (refine ⟨by kernel_rfl, ?_⟩)
    conv => whnf
    ((with_reducible cases z1 : x.kind != Int.ofNat 2) <;> try exact Bool.noConfusion (Eq.trans (Eq.symm z1) hk))
    conv => whnf
    with_reducible refine ⟨_, _, cS _ _ _, ?_⟩
    conv => whnf
    ((with_reducible cases z2 : ne != Int.ofNat 0) <;> try exact Bool.noConfusion (Eq.trans (Eq.symm z2) hns))
    conv => whnf
    with_reducible refine ⟨_, _, cM _ _ _, ?_⟩
    conv => whnf
    (refine ⟨by kernel_rfl, ?_⟩)
    conv => whnf
    (refine ⟨by kernel_rfl, ?_⟩)
    conv => whnf
    ((with_reducible cases z3 : my) <;> try exact Bool.noConfusion (Eq.trans (Eq.symm z3) hmay))
    conv => whnf
    with_reducible refine ⟨_, _, cE _ _ _, ?_⟩
    conv => whnf
    (refine ⟨by kernel_rfl, ?_⟩)
    conv => whnf
    (refine ⟨by kernel_rfl, ?_⟩)
    conv => whnf
    ((with_reducible cases z4 : en == Int.ofNat 0) <;> try exact Bool.noConfusion (Eq.trans (Eq.symm z4) hen0))
    conv => whnf
    with_reducible refine ⟨_, _, cH _ _ _, ?_⟩
    conv => whnf
    (refine ⟨by kernel_rfl, ?_⟩)
    conv => whnf
    (refine ⟨by kernel_rfl, ?_⟩)
    conv => whnf
    (refine call_inline (fn := Try.f53) rfl Try.func53 rfl rfl ?_)
    conv => whnf
    (refine call_inline (fn := Try.f68) rfl Try.func68 rfl rfl ?_)
    conv => whnf
    with_reducible refine ⟨_, _, cA2 _ _ _, ?_⟩
    conv => whnf
    (refine ⟨by kernel_rfl, ?_⟩)
    conv => whnf
    (refine ⟨by kernel_rfl, ?_⟩)
    conv => whnf
    (refine ⟨by kernel_rfl, ?_⟩)
    conv => whnf
    rfl
end Go.Proofs.Ytnkeijebkpjdgaa.Ab
/- Over the engine: what only looks: how much there is. -/
namespace Go.Proofs.Ytnkeijebkpjdgaa.Ab
open Go Go.RowKit

set_option maxRecDepth 100000
/-- What is left, bytes and nodes. -/
def statS : List NodeS → Int → Int → Int × Int
  | [], b, s => (b, s)
  | x :: r, b, s => statS r (IntKind.wrap .u64 (b - IntKind.wrap .u64 x.bytes.length)) (if (x.kind != 0) = true then IntKind.wrap .u64 (s - 1) else s)
theorem statS_drop {l : List NodeS} {i : Int} {x : NodeS} {b s : Int} (h0 : 0 ≤ i) (h : l[i.toNat]? = some x) : statS (l.drop i.toNat) b s = statS (l.drop (i + 1).toNat) (IntKind.wrap .u64 (b - IntKind.wrap .u64 x.bytes.length)) (if (x.kind != 0) = true then IntKind.wrap .u64 (s - 1) else s) := by
  obtain ⟨h1, rfl⟩ := List.getElem?_eq_some_iff.1 h
  rw [List.drop_eq_getElem_cons h1, statS, show (i + 1).toNat = i.toNat + 1 by omega]
theorem statS_clone : ∀ (l : List NodeS) (b s : Int), statS (l.map cloneN) b s = statS l b s
  | [], _, _ => rfl
  | x :: r, b, s => by
    rw [List.map_cons, statS, statS, statS_clone r]
    rfl
set_option maxHeartbeats 16000000 in
theorem look_stat (m : Nat) (from_ : FuncId) (h : H) (ns : List NodeS) (t : Bool) (gen : Int) (c : CredS) (hc : c.ok) (a : ArgsS) (ha : a.ok) (ss sn : Int) (bo : Nat → Int) (hok : ∀ x ∈ ns, x.fit) (hlen : ns.length ≤ 1025) (hlen2 : ns ≠ []) (hK : ∀ (f : FuncId) (h : H), evCall TE (m + 29) f (.fn 7 [] []) [.agg [.sl (nodesA ns) ns.length t, .int .u32 gen]] h = some (.ret (.bool true), h)) (hp : a.proc = 18) (hno : nanoOk sn = true) (n : Int) (x : NodeS) (hn : thereS ns n = true) (hx : ns[n.toNat]? = some x) (hF : ∀ (f : FuncId) (h : H), evCall TE (m + 29) f (.fn 10 [] []) [.agg [.sl (nodesA ns) ns.length t, .int .u32 gen], a.h] h = some (.ret (.tup [.int .i64 n, .int .u32 0]), h)) (tt : Bool) (hsl : a.h = .sl (numsA .u8 a.hl) a.hl.length tt) (B S : Int) (hBS : statS ns 67108864 1024 = (B, S)) : evCall TE (m + 30) from_ (.fn 9 [] []) [.agg [.sl (nodesA ns) ns.length t, .int .u32 gen], .agg (credL c), .agg (argL a), .agg (worldL ss sn bo)] h = some (.ret (.tup [.agg [.sl (nodesA (ns.map cloneN)) ns.length true, .int .u32 gen], .agg (ansA a.proc { stat := 0, ha := true, at_ := attrsS x n, space := [.int .u64 67108864, .int .u64 B, .int .u64 B], slots := [.int .u64 1024, .int .u64 S, .int .u64 S] })]), h) := by
  have cT : ∀ (h : H), (evAll TE (m + 29)).1 9 (.fn 30 [] []) [.agg [.sl (nodesA ns) ns.length t, .int .u32 gen]] h = some (.ret (.agg [.sl (nodesA (ns.map cloneN)) ns.length true, .int .u32 gen]), h) := fun h => twinL_c (m + 27) h ns t gen hok hlen hlen2
  have cD : ∀ (f : FuncId) (h : H), (evAll TE (m + 29)).1 f (.fn 32 [] []) [.int .u32 a.proc] h = some (.ret (.bool (doesS a.proc)), h) := fun f h => does_c (m + 27) f h a.proc
  have cK : ∀ (f : FuncId) (h : H), (evAll TE (m + 29)).1 f (.fn 7 [] []) [.agg [.sl (nodesA ns) ns.length t, .int .u32 gen]] h = some (.ret (.bool true), h) := hK
  have cN : ∀ (f : FuncId) (h : H), (evAll TE (m + 29)).1 f (.fn 26 [] []) [.agg [.int .u32 ss, .int .u32 sn]] h = some (.ret (.bool (nanoOk sn)), h) := fun f h => times_c (m + 28) f h ss sn
  have hone1 := cred_one hc
  have hone2 := args_one ha
  have hone3 := work_one (ns := ns) (gen := gen) (ss := ss) (sn := sn) (bo := bo) hc ha
  have htop3 := work_top (ns := ns) (gen := gen) (ss := ss) (sn := sn) (bo := bo) hc ha
  clear hK
  have hcl : cleanL [.agg [.sl (nodesA ns) ns.length t, .int .u32 gen], .agg (credL c), .agg (argL a), .agg (worldL ss sn bo)] = true := by
    have h1 := row_clean hc.1
    have h2 := row_clean ha.h
    have h3 := row_clean ha.h2
    have h4 := row_clean ha.data
    simp [cleanL, AV.clean, credL, argL, worldL, h1, h2, h3, h4]
  have cF : ∀ (f : FuncId) (h : H), (evAll TE (m + 29)).1 f (.fn 10 [] []) [.agg [.sl (nodesA ns) ns.length t, .int .u32 gen], a.h] h = some (.ret (.tup [.int .i64 n, .int .u32 0]), h) := hF
  have hd : doesS a.proc = true := by rw [hp]; rfl
  have hm : thereS (ns.map cloneN) n = true := by rw [thereS_clone]; exact hn
  have hmx : (ns.map cloneN)[n.toNat]? = some (cloneN x) := by rw [List.getElem?_map, hx]; rfl
  have hml : (ns.map cloneN).length = ns.length := List.length_map ..
  have hxf := hok x (List.mem_of_getElem? hx)
  have hmo : (cloneN x).ok := ⟨bytesC_ok hxf.1.1, entsC_ok hxf.1.2⟩
  have hmv : nodesOk (.sl (nodesA (ns.map cloneN)) ns.length true) (ns.map cloneN) := .inr ⟨true, by rw [hml]⟩
  obtain ⟨hn1, hn2, _⟩ := there_facts hn
  have hn0 : 0 ≤ n := by omega
  have cA : ∀ (k : Nat) (f : FuncId) (h : H), (evAll TE (k + 2)).1 f (.fn 37 [] []) [.agg [.sl (nodesA (ns.map cloneN)) ns.length true, .int .u32 gen], .int .i64 n] h = some (.ret (.tup [.agg (attrsS x n), .bool true]), h) := fun k f h => attrs_some k f h _ _ hmv gen n (cloneN x) hm hmx hmo
  clear hF
  unfold attrsS at cA ⊢
  generalize IntKind.wrap .u64 (sizeS x) = sz at cA ⊢
  generalize IntKind.wrap .u32 x.links = lk at cA ⊢
  generalize IntKind.wrap .u64 n = idn at cA ⊢
  obtain ⟨p, hv, hl, nm, h2, h2l, nm2, st, hasG, gs, gn, bits, off, cnt, mx, stb, dat, datl, tg, how, kd, vf, ck⟩ := a
  dsimp only at hsl cD cF hd hp hone2 hone3 htop3 hcl ⊢
  subst hsl
  subst hp
  refine call_clean (fn := Try.f9) rfl Try.func9 rfl rfl hcl rfl rfl (Nat.le_of_ble_eq_true rfl) ?_
  conv => whnf
  (refine runK_ret (ev_box rfl hone1) ?_)
  conv => whnf
  (refine runK_ret (ev_box rfl hone2) ?_)
  conv => whnf
  with_reducible refine ⟨_, _, cT _, ?_⟩
  conv => whnf
  (refine ⟨by kernel_rfl, ?_⟩)
  conv => whnf
  (refine runK_ret (ev_box rfl hone3) ?_)
  conv => whnf
  (refine listK_of (if_pos (Nat.le_trans (Nat.le_of_eq htop3) (Nat.zero_le _))) ?_)
  conv => whnf
  (refine ⟨by kernel_rfl, ?_⟩)
  conv => whnf
  (refine call_raw (fn := Try.f31) rfl Try.func31 rfl rfl (Nat.le_of_ble_eq_true rfl) ?_)
  conv => whnf
  (refine ⟨by kernel_rfl, ?_⟩)
  conv => whnf
  with_reducible refine ⟨_, _, cD _ _, ?_⟩
  conv => whnf
  with_reducible refine ⟨_, _, cK _ _, ?_⟩
  conv => whnf
  with_reducible refine ⟨_, _, cN _ _, ?_⟩
  conv => whnf
  ((with_reducible cases z0 : nanoOk sn) <;> try exact Bool.noConfusion (Eq.trans (Eq.symm z0) hno))
  conv => whnf
  with_reducible refine ⟨_, _, cF _ _, ?_⟩
  conv => whnf
  (refine call_inline (fn := Try.f58) rfl Try.func58 rfl rfl ?_)
  conv => whnf
  (refine ⟨by kernel_rfl, ?_⟩)
  conv => whnf
  rw [← statS_clone] at hBS
  refine ⟨ns.length + 1, by show ns.length + 1 ≤ 4611686018427387904; omega, ?_⟩
  refine rounds_at (fun s (a : Int × Int × Int) => ⟨RG.of 62 [(26, .int .i64 a.1), (25, .int .i64 ns.length), (24, .sl (nodesA (ns.map cloneN)) ns.length true), (4, .int .u64 a.2.2), (3, .int .u64 a.2.1), (0, s.tmps.get 0)], s.h⟩) (fun a => 0 ≤ a.1 ∧ a.1 ≤ ns.length ∧ statS ((ns.map cloneN).drop a.1.toNat) a.2.1 a.2.2 = (B, S)) (fun a => (ns.length - a.1).toNat) _ (0, 67108864, 1024) ⟨by simp only; omega, by simp only; omega, hBS⟩ (by show ((ns.length : Int) - 0).toNat < ns.length + 1; omega) (by kernel_rfl) ?_
  intro a m' hI ih
  obtain ⟨i, fb, fs⟩ := a
  dsimp only at hI ih ⊢
  obtain ⟨hI0, hI1, hI2⟩ := hI
  conv => whnf
  cases hlt : decide (i < (ns.length : Int)) with
  | false =>
    have hlt := of_decide_eq_false hlt
    rw [List.drop_eq_nil_of_le (by rw [hml]; omega), statS] at hI2
    obtain ⟨hb, hs⟩ : fb = B ∧ fs = S := by cases hI2; exact ⟨rfl, rfl⟩
    subst hb hs
    clear ih hI2
    conv => whnf
    (refine ⟨(4 : Nat), Nat.le_of_ble_eq_true rfl, ?_⟩)
    conv => whnf
    (refine ⟨by kernel_rfl, ?_⟩)
    conv => whnf
    (refine ⟨by kernel_rfl, ?_⟩)
    conv => whnf
    (refine call_inline (fn := Try.f53) rfl Try.func53 rfl rfl ?_)
    conv => whnf
    (refine call_inline (fn := Try.f68) rfl Try.func68 rfl rfl ?_)
    conv => whnf
    with_reducible refine ⟨_, _, cA _ _ _, ?_⟩
    conv => whnf
    (refine ⟨by kernel_rfl, ?_⟩)
    conv => whnf
    (refine ⟨by kernel_rfl, ?_⟩)
    conv => whnf
    (refine ⟨by kernel_rfl, ?_⟩)
    conv => whnf
    rfl
  | true =>
    have hlt := of_decide_eq_true hlt
    obtain ⟨y, hy⟩ : ∃ y, (ns.map cloneN)[i.toNat]? = some y := ⟨_, List.getElem?_eq_getElem (by rw [hml]; omega)⟩
    have hyo : y.ok := by
      obtain ⟨z, hz, rfl⟩ := List.mem_map.1 (List.mem_of_getElem? hy)
      exact ⟨bytesC_ok (hok z hz).1.1, entsC_ok (hok z hz).1.2⟩
    have hw : IntKind.wrap .i64 (i + 1) = i + 1 := wrap64 (by omega) (by omega)
    have hmu : (ns.length - IntKind.wrap .i64 (i + 1)).toNat < (ns.length - i).toNat := by rw [hw]; omega
    have hc1 : i.toNat * 25 + 25 ≤ (nodesA (ns.map cloneN)).length := by rw [nodesA_len, hml]; omega
    have hd1 := nodesA_node hy
    rw [statS_drop hI0 hy] at hI2
    have hst : 0 ≤ IntKind.wrap .i64 (i + 1) ∧ IntKind.wrap .i64 (i + 1) ≤ ns.length := by rw [hw]; omega
    have hst2 : statS ((ns.map cloneN).drop (IntKind.wrap .i64 (i + 1)).toNat) (IntKind.wrap .u64 (fb - IntKind.wrap .u64 y.bytes.length)) (if (y.kind != 0) = true then IntKind.wrap .u64 (fs - 1) else fs) = (B, S) := by rw [hw]; exact hI2
    clear hI2 hBS hx hxf
    have hone : oneL (nodeA y) = true := nodeA_one hyo
    have htop : topL (nodeA y) = 0 := nodeA_top0 hyo
    have hyd := hyo.1
    obtain ⟨ykd, yge, ymo, yus, yng, yli, yxrs, yxrn, yxws, yxwn, yts, ytn, yda, yby, yvf, yta, yls, yes, ypa, ynx⟩ := y
    dsimp only at hyd hst2
    rcases hyd with ⟨rfl, rfl⟩ | ⟨yt, rfl⟩
    · cases hkn : (ykd != 0) with
      | true =>
        rw [hkn, if_pos rfl] at hst2
        conv => whnf
        (refine runK_ret (ev_indexSl (sz := 25) rfl rfl rfl rfl hI0 hlt) ?_)
        conv => whnf
        (refine runK_ret (ev_loadVA (z := 25) rfl rfl rfl hc1 hd1) ?_)
        conv => whnf
        (refine runK_store (z := 25) rfl rfl rfl rfl hone rfl rfl rfl (Nat.le_of_ble_eq_true rfl) (.inl rfl) ?_)
        conv => whnf
        (refine listK_of (if_pos (Nat.le_trans (Nat.le_of_eq htop) (Nat.zero_le _))) ?_)
        conv => whnf
        ((with_reducible cases z0 : ykd != Int.ofNat 0) <;> try exact Bool.noConfusion (Eq.trans (Eq.symm z0) hkn))
        conv => whnf
        (exact ih (IntKind.wrap .i64 (i + 1), _, _) _ ⟨hst.1, hst.2, hst2⟩ hmu (by kernel_rfl))
      | false =>
        rw [hkn, if_neg (fun h => Bool.noConfusion h)] at hst2
        conv => whnf
        (refine runK_ret (ev_indexSl (sz := 25) rfl rfl rfl rfl hI0 hlt) ?_)
        conv => whnf
        (refine runK_ret (ev_loadVA (z := 25) rfl rfl rfl hc1 hd1) ?_)
        conv => whnf
        (refine runK_store (z := 25) rfl rfl rfl rfl hone rfl rfl rfl (Nat.le_of_ble_eq_true rfl) (.inl rfl) ?_)
        conv => whnf
        (refine listK_of (if_pos (Nat.le_trans (Nat.le_of_eq htop) (Nat.zero_le _))) ?_)
        conv => whnf
        ((with_reducible cases z0 : ykd != Int.ofNat 0) <;> try exact Bool.noConfusion (Eq.trans (Eq.symm z0) hkn))
        conv => whnf
        (exact ih (IntKind.wrap .i64 (i + 1), _, _) _ ⟨hst.1, hst.2, hst2⟩ hmu (by kernel_rfl))
    · cases hkn : (ykd != 0) with
      | true =>
        rw [hkn, if_pos rfl] at hst2
        conv => whnf
        (refine runK_ret (ev_indexSl (sz := 25) rfl rfl rfl rfl hI0 hlt) ?_)
        conv => whnf
        (refine runK_ret (ev_loadVA (z := 25) rfl rfl rfl hc1 hd1) ?_)
        conv => whnf
        (refine runK_store (z := 25) rfl rfl rfl rfl hone rfl rfl rfl (Nat.le_of_ble_eq_true rfl) (.inl rfl) ?_)
        conv => whnf
        (refine listK_of (if_pos (Nat.le_trans (Nat.le_of_eq htop) (Nat.zero_le _))) ?_)
        conv => whnf
        ((with_reducible cases z0 : ykd != Int.ofNat 0) <;> try exact Bool.noConfusion (Eq.trans (Eq.symm z0) hkn))
        conv => whnf
        (exact ih (IntKind.wrap .i64 (i + 1), _, _) _ ⟨hst.1, hst.2, hst2⟩ hmu (by kernel_rfl))
      | false =>
        rw [hkn, if_neg (fun h => Bool.noConfusion h)] at hst2
        conv => whnf
        (refine runK_ret (ev_indexSl (sz := 25) rfl rfl rfl rfl hI0 hlt) ?_)
        conv => whnf
        (refine runK_ret (ev_loadVA (z := 25) rfl rfl rfl hc1 hd1) ?_)
        conv => whnf
        (refine runK_store (z := 25) rfl rfl rfl rfl hone rfl rfl rfl (Nat.le_of_ble_eq_true rfl) (.inl rfl) ?_)
        conv => whnf
        (refine listK_of (if_pos (Nat.le_trans (Nat.le_of_eq htop) (Nat.zero_le _))) ?_)
        conv => whnf
        ((with_reducible cases z0 : ykd != Int.ofNat 0) <;> try exact Bool.noConfusion (Eq.trans (Eq.symm z0) hkn))
        conv => whnf
        (exact ih (IntKind.wrap .i64 (i + 1), _, _) _ ⟨hst.1, hst.2, hst2⟩ hmu (by kernel_rfl))
end Go.Proofs.Ytnkeijebkpjdgaa.Ab
