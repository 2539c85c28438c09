import Derived.Test.YtnkeijebkpjdgaaMLookKeeps23
import Derived.Test.YtnkeijebkpjdgaaMLookKeeps24
import Derived.Test.YtnkeijebkpjdgaaMLookKeeps18
set_option linter.unusedVariables false
set_option linter.unusedSimpArgs false
/- Over the engine: what only looks: what is read. -/
namespace Go.Proofs.Ytnkeijebkpjdgaa.Ab
open Go Go.RowKit

set_option maxRecDepth 100000
set_option maxHeartbeats 16000000 in
theorem look_read_dir (m : Nat) (from_ : FuncId) (h : H) (ns : List NodeS) (t : Bool) (gen : Int) (c : CredS) (hc : c.ok) (a : ArgsS) (ha : a.ok) (ss sn : Int) (bo : Nat → Int) (hok : ∀ x ∈ ns, x.fit) (hlen : ns.length ≤ 1025) (hlen2 : ns ≠ []) (hK : ∀ (f : FuncId) (h : H), evCall TE (m + 29) f (.fn 7 [] []) [.agg [.sl (nodesA ns) ns.length t, .int .u32 gen]] h = some (.ret (.bool true), h)) (hp : a.proc = 6) (hno : nanoOk sn = true) (n : Int) (x : NodeS) (hn : thereS ns n = true) (hx : ns[n.toNat]? = some x) (hF : ∀ (f : FuncId) (h : H), evCall TE (m + 29) f (.fn 10 [] []) [.agg [.sl (nodesA ns) ns.length t, .int .u32 gen], a.h] h = some (.ret (.tup [.int .i64 n, .int .u32 0]), h)) (tt : Bool) (hsl : a.h = .sl (numsA .u8 a.hl) a.hl.length tt) (hk : (x.kind == 2) = true) : evCall TE (m + 30) from_ (.fn 9 [] []) [.agg [.sl (nodesA ns) ns.length t, .int .u32 gen], .agg (credL c), .agg (argL a), .agg (worldL ss sn bo)] h = some (.ret (.tup [.agg [.sl (nodesA (ns.map cloneN)) ns.length true, .int .u32 gen], .agg (ansA a.proc { stat := 21, ha := true, at_ := attrsS x n })]), h) := by
  have cT : ∀ (h : H), (evAll TE (m + 29)).1 9 (.fn 30 [] []) [.agg [.sl (nodesA ns) ns.length t, .int .u32 gen]] h = some (.ret (.agg [.sl (nodesA (ns.map cloneN)) ns.length true, .int .u32 gen]), h) := fun h => twinL_c (m + 27) h ns t gen hok hlen hlen2
  have cD : ∀ (f : FuncId) (h : H), (evAll TE (m + 29)).1 f (.fn 32 [] []) [.int .u32 a.proc] h = some (.ret (.bool (doesS a.proc)), h) := fun f h => does_c (m + 27) f h a.proc
  have cK : ∀ (f : FuncId) (h : H), (evAll TE (m + 29)).1 f (.fn 7 [] []) [.agg [.sl (nodesA ns) ns.length t, .int .u32 gen]] h = some (.ret (.bool true), h) := hK
  have cN : ∀ (f : FuncId) (h : H), (evAll TE (m + 29)).1 f (.fn 26 [] []) [.agg [.int .u32 ss, .int .u32 sn]] h = some (.ret (.bool (nanoOk sn)), h) := fun f h => times_c (m + 28) f h ss sn
  have hone1 := cred_one hc
  have hone2 := args_one ha
  have hone3 := work_one (ns := ns) (gen := gen) (ss := ss) (sn := sn) (bo := bo) hc ha
  have htop3 := work_top (ns := ns) (gen := gen) (ss := ss) (sn := sn) (bo := bo) hc ha
  clear hK
  have hcl : cleanL [.agg [.sl (nodesA ns) ns.length t, .int .u32 gen], .agg (credL c), .agg (argL a), .agg (worldL ss sn bo)] = true := by
    have h1 := row_clean hc.1
    have h2 := row_clean ha.h
    have h3 := row_clean ha.h2
    have h4 := row_clean ha.data
    simp [cleanL, AV.clean, credL, argL, worldL, h1, h2, h3, h4]
  have cF : ∀ (f : FuncId) (h : H), (evAll TE (m + 29)).1 f (.fn 10 [] []) [.agg [.sl (nodesA ns) ns.length t, .int .u32 gen], a.h] h = some (.ret (.tup [.int .i64 n, .int .u32 0]), h) := hF
  have hd : doesS a.proc = true := by rw [hp]; rfl
  have hm : thereS (ns.map cloneN) n = true := by rw [thereS_clone]; exact hn
  have hmx : (ns.map cloneN)[n.toNat]? = some (cloneN x) := by rw [List.getElem?_map, hx]; rfl
  have hml : (ns.map cloneN).length = ns.length := List.length_map ..
  have hxf := hok x (List.mem_of_getElem? hx)
  have hmo : (cloneN x).ok := ⟨bytesC_ok hxf.1.1, entsC_ok hxf.1.2⟩
  have hmv : nodesOk (.sl (nodesA (ns.map cloneN)) ns.length true) (ns.map cloneN) := .inr ⟨true, by rw [hml]⟩
  obtain ⟨hn1, hn2, _⟩ := there_facts hn
  have hn0 : 0 ≤ n := by omega
  have cA : ∀ (k : Nat) (f : FuncId) (h : H), (evAll TE (k + 2)).1 f (.fn 37 [] []) [.agg [.sl (nodesA (ns.map cloneN)) ns.length true, .int .u32 gen], .int .i64 n] h = some (.ret (.tup [.agg (attrsS x n), .bool true]), h) := fun k f h => attrs_some k f h _ _ hmv gen n (cloneN x) hm hmx hmo
  clear hF
  unfold attrsS at cA ⊢
  generalize IntKind.wrap .u64 (sizeS x) = sz at cA ⊢
  generalize IntKind.wrap .u32 x.links = lk at cA ⊢
  generalize IntKind.wrap .u64 n = idn at cA ⊢
  obtain ⟨p, hv, hl, nm, h2, h2l, nm2, st, hasG, gs, gn, bits, off, cnt, mx, stb, dat, datl, tg, how, kd, vf, ck⟩ := a
  dsimp only at hsl cD cF hd hp hone2 hone3 htop3 hcl ⊢
  subst hsl
  subst hp
  refine call_clean (fn := Try.f9) rfl Try.func9 rfl rfl hcl rfl rfl (Nat.le_of_ble_eq_true rfl) ?_
  conv => whnf
  (refine runK_ret (ev_box rfl hone1) ?_)
  conv => whnf
  (refine runK_ret (ev_box rfl hone2) ?_)
  conv => whnf
  with_reducible refine ⟨_, _, cT _, ?_⟩
  conv => whnf
  (refine ⟨by kernel_rfl, ?_⟩)
  conv => whnf
  (refine runK_ret (ev_box rfl hone3) ?_)
  conv => whnf
  (refine listK_of (if_pos (Nat.le_trans (Nat.le_of_eq htop3) (Nat.zero_le _))) ?_)
  conv => whnf
  (refine ⟨by kernel_rfl, ?_⟩)
  conv => whnf
  (refine call_raw (fn := Try.f31) rfl Try.func31 rfl rfl (Nat.le_of_ble_eq_true rfl) ?_)
  conv => whnf
  (refine ⟨by kernel_rfl, ?_⟩)
  conv => whnf
  with_reducible refine ⟨_, _, cD _ _, ?_⟩
  conv => whnf
  with_reducible refine ⟨_, _, cK _ _, ?_⟩
  conv => whnf
  with_reducible refine ⟨_, _, cN _ _, ?_⟩
  conv => whnf
  ((with_reducible cases z0 : nanoOk sn) <;> try exact Bool.noConfusion (Eq.trans (Eq.symm z0) hno))
  conv => whnf
  with_reducible refine ⟨_, _, cF _ _, ?_⟩
  conv => whnf
  (refine call_inline (fn := Try.f57) rfl Try.func57 rfl rfl ?_)
  conv => whnf
  (refine call_inline (fn := Try.f68) rfl Try.func68 rfl rfl ?_)
  conv => whnf
  with_reducible refine ⟨_, _, cA _ _ _, ?_⟩
  conv => whnf
  (refine ⟨by kernel_rfl, ?_⟩)
  conv => whnf
  (refine ⟨by kernel_rfl, ?_⟩)
  conv => whnf
  (refine call_inline (fn := Try.f69) rfl Try.func69 rfl rfl ?_)
  conv => whnf
  (refine runK_ret (ev_indexSl (sz := 25) rfl rfl rfl rfl hn0 hn2) ?_)
  conv => whnf
  (refine runK_ret (ev_loadV (z := 1) (v := .int .u32 x.kind) rfl rfl rfl ((nodesA_cell hmx 0 (by decide)).trans rfl)) ?_)
  conv => whnf
  (refine ⟨by kernel_rfl, ?_⟩)
  conv => whnf
  ((with_reducible cases z1 : x.kind == Int.ofNat 2) <;> try exact Bool.noConfusion (Eq.trans (Eq.symm z1) hk))
  conv => whnf
  (refine ⟨by kernel_rfl, ?_⟩)
  conv => whnf
  rfl
set_option maxHeartbeats 16000000 in
theorem look_read_link (m : Nat) (from_ : FuncId) (h : H) (ns : List NodeS) (t : Bool) (gen : Int) (c : CredS) (hc : c.ok) (a : ArgsS) (ha : a.ok) (ss sn : Int) (bo : Nat → Int) (hok : ∀ x ∈ ns, x.fit) (hlen : ns.length ≤ 1025) (hlen2 : ns ≠ []) (hK : ∀ (f : FuncId) (h : H), evCall TE (m + 29) f (.fn 7 [] []) [.agg [.sl (nodesA ns) ns.length t, .int .u32 gen]] h = some (.ret (.bool true), h)) (hp : a.proc = 6) (hno : nanoOk sn = true) (n : Int) (x : NodeS) (hn : thereS ns n = true) (hx : ns[n.toNat]? = some x) (hF : ∀ (f : FuncId) (h : H), evCall TE (m + 29) f (.fn 10 [] []) [.agg [.sl (nodesA ns) ns.length t, .int .u32 gen], a.h] h = some (.ret (.tup [.int .i64 n, .int .u32 0]), h)) (tt : Bool) (hsl : a.h = .sl (numsA .u8 a.hl) a.hl.length tt) (hk : (x.kind == 2) = false) (hk5 : (x.kind == 5) = true) : evCall TE (m + 30) from_ (.fn 9 [] []) [.agg [.sl (nodesA ns) ns.length t, .int .u32 gen], .agg (credL c), .agg (argL a), .agg (worldL ss sn bo)] h = some (.ret (.tup [.agg [.sl (nodesA (ns.map cloneN)) ns.length true, .int .u32 gen], .agg (ansA a.proc { stat := 22, ha := true, at_ := attrsS x n })]), h) := by
  have cT : ∀ (h : H), (evAll TE (m + 29)).1 9 (.fn 30 [] []) [.agg [.sl (nodesA ns) ns.length t, .int .u32 gen]] h = some (.ret (.agg [.sl (nodesA (ns.map cloneN)) ns.length true, .int .u32 gen]), h) := fun h => twinL_c (m + 27) h ns t gen hok hlen hlen2
  have cD : ∀ (f : FuncId) (h : H), (evAll TE (m + 29)).1 f (.fn 32 [] []) [.int .u32 a.proc] h = some (.ret (.bool (doesS a.proc)), h) := fun f h => does_c (m + 27) f h a.proc
  have cK : ∀ (f : FuncId) (h : H), (evAll TE (m + 29)).1 f (.fn 7 [] []) [.agg [.sl (nodesA ns) ns.length t, .int .u32 gen]] h = some (.ret (.bool true), h) := hK
  have cN : ∀ (f : FuncId) (h : H), (evAll TE (m + 29)).1 f (.fn 26 [] []) [.agg [.int .u32 ss, .int .u32 sn]] h = some (.ret (.bool (nanoOk sn)), h) := fun f h => times_c (m + 28) f h ss sn
  have hone1 := cred_one hc
  have hone2 := args_one ha
  have hone3 := work_one (ns := ns) (gen := gen) (ss := ss) (sn := sn) (bo := bo) hc ha
  have htop3 := work_top (ns := ns) (gen := gen) (ss := ss) (sn := sn) (bo := bo) hc ha
  clear hK
  have hcl : cleanL [.agg [.sl (nodesA ns) ns.length t, .int .u32 gen], .agg (credL c), .agg (argL a), .agg (worldL ss sn bo)] = true := by
    have h1 := row_clean hc.1
    have h2 := row_clean ha.h
    have h3 := row_clean ha.h2
    have h4 := row_clean ha.data
    simp [cleanL, AV.clean, credL, argL, worldL, h1, h2, h3, h4]
  have cF : ∀ (f : FuncId) (h : H), (evAll TE (m + 29)).1 f (.fn 10 [] []) [.agg [.sl (nodesA ns) ns.length t, .int .u32 gen], a.h] h = some (.ret (.tup [.int .i64 n, .int .u32 0]), h) := hF
  have hd : doesS a.proc = true := by rw [hp]; rfl
  have hm : thereS (ns.map cloneN) n = true := by rw [thereS_clone]; exact hn
  have hmx : (ns.map cloneN)[n.toNat]? = some (cloneN x) := by rw [List.getElem?_map, hx]; rfl
  have hml : (ns.map cloneN).length = ns.length := List.length_map ..
  have hxf := hok x (List.mem_of_getElem? hx)
  have hmo : (cloneN x).ok := ⟨bytesC_ok hxf.1.1, entsC_ok hxf.1.2⟩
  have hmv : nodesOk (.sl (nodesA (ns.map cloneN)) ns.length true) (ns.map cloneN) := .inr ⟨true, by rw [hml]⟩
  obtain ⟨hn1, hn2, _⟩ := there_facts hn
  have hn0 : 0 ≤ n := by omega
  have cA : ∀ (k : Nat) (f : FuncId) (h : H), (evAll TE (k + 2)).1 f (.fn 37 [] []) [.agg [.sl (nodesA (ns.map cloneN)) ns.length true, .int .u32 gen], .int .i64 n] h = some (.ret (.tup [.agg (attrsS x n), .bool true]), h) := fun k f h => attrs_some k f h _ _ hmv gen n (cloneN x) hm hmx hmo
  clear hF
  unfold attrsS at cA ⊢
  generalize IntKind.wrap .u64 (sizeS x) = sz at cA ⊢
  generalize IntKind.wrap .u32 x.links = lk at cA ⊢
  generalize IntKind.wrap .u64 n = idn at cA ⊢
  obtain ⟨p, hv, hl, nm, h2, h2l, nm2, st, hasG, gs, gn, bits, off, cnt, mx, stb, dat, datl, tg, how, kd, vf, ck⟩ := a
  dsimp only at hsl cD cF hd hp hone2 hone3 htop3 hcl ⊢
  subst hsl
  subst hp
  refine call_clean (fn := Try.f9) rfl Try.func9 rfl rfl hcl rfl rfl (Nat.le_of_ble_eq_true rfl) ?_
  conv => whnf
  (refine runK_ret (ev_box rfl hone1) ?_)
  conv => whnf
  (refine runK_ret (ev_box rfl hone2) ?_)
  conv => whnf
  with_reducible refine ⟨_, _, cT _, ?_⟩
  conv => whnf
  (refine ⟨by kernel_rfl, ?_⟩)
  conv => whnf
  (refine runK_ret (ev_box rfl hone3) ?_)
  conv => whnf
  (refine listK_of (if_pos (Nat.le_trans (Nat.le_of_eq htop3) (Nat.zero_le _))) ?_)
  conv => whnf
  (refine ⟨by kernel_rfl, ?_⟩)
  conv => whnf
  (refine call_raw (fn := Try.f31) rfl Try.func31 rfl rfl (Nat.le_of_ble_eq_true rfl) ?_)
  conv => whnf
  (refine ⟨by kernel_rfl, ?_⟩)
  conv => whnf
  with_reducible refine ⟨_, _, cD _ _, ?_⟩
  conv => whnf
  with_reducible refine ⟨_, _, cK _ _, ?_⟩
  conv => whnf
  with_reducible refine ⟨_, _, cN _ _, ?_⟩
  conv => whnf
  ((with_reducible cases z0 : nanoOk sn) <;> try exact Bool.noConfusion (Eq.trans (Eq.symm z0) hno))
  conv => whnf
  with_reducible refine ⟨_, _, cF _ _, ?_⟩
  conv => whnf
  (refine call_inline (fn := Try.f57) rfl Try.func57 rfl rfl ?_)
  conv => whnf
  (refine call_inline (fn := Try.f68) rfl Try.func68 rfl rfl ?_)
  conv => whnf
  with_reducible refine ⟨_, _, cA _ _ _, ?_⟩
  conv => whnf
  (refine ⟨by kernel_rfl, ?_⟩)
  conv => whnf
  (refine ⟨by kernel_rfl, ?_⟩)
  conv => whnf
  (refine call_inline (fn := Try.f69) rfl Try.func69 rfl rfl ?_)
  conv => whnf
  (refine runK_ret (ev_indexSl (sz := 25) rfl rfl rfl rfl hn0 hn2) ?_)
  conv => whnf
  (refine runK_ret (ev_loadV (z := 1) (v := .int .u32 x.kind) rfl rfl rfl ((nodesA_cell hmx 0 (by decide)).trans rfl)) ?_)
  conv => whnf
  (refine ⟨by kernel_rfl, ?_⟩)
  conv => whnf
  ((with_reducible cases z1 : x.kind == Int.ofNat 2) <;> try exact Bool.noConfusion (Eq.trans (Eq.symm z1) hk))
  conv => whnf
  (refine call_inline (fn := Try.f69) rfl Try.func69 rfl rfl ?_)
  conv => whnf
  (refine runK_ret (ev_indexSl (sz := 25) rfl rfl rfl rfl hn0 hn2) ?_)
  conv => whnf
  (refine runK_ret (ev_loadV (z := 1) (v := .int .u32 x.kind) rfl rfl rfl ((nodesA_cell hmx 0 (by decide)).trans rfl)) ?_)
  conv => whnf
  (refine ⟨by kernel_rfl, ?_⟩)
  conv => whnf
  ((with_reducible cases z2 : x.kind == Int.ofNat 5) <;> try exact Bool.noConfusion (Eq.trans (Eq.symm z2) hk5))
  conv => whnf
  (refine ⟨by kernel_rfl, ?_⟩)
  conv => whnf
  rfl
set_option maxHeartbeats 16000000 in
theorem look_read_may (m : Nat) (from_ : FuncId) (h : H) (ns : List NodeS) (t : Bool) (gen : Int) (c : CredS) (hc : c.ok) (a : ArgsS) (ha : a.ok) (ss sn : Int) (bo : Nat → Int) (hok : ∀ x ∈ ns, x.fit) (hlen : ns.length ≤ 1025) (hlen2 : ns ≠ []) (hK : ∀ (f : FuncId) (h : H), evCall TE (m + 29) f (.fn 7 [] []) [.agg [.sl (nodesA ns) ns.length t, .int .u32 gen]] h = some (.ret (.bool true), h)) (hp : a.proc = 6) (hno : nanoOk sn = true) (n : Int) (x : NodeS) (hn : thereS ns n = true) (hx : ns[n.toNat]? = some x) (hF : ∀ (f : FuncId) (h : H), evCall TE (m + 29) f (.fn 10 [] []) [.agg [.sl (nodesA ns) ns.length t, .int .u32 gen], a.h] h = some (.ret (.tup [.int .i64 n, .int .u32 0]), h)) (tt : Bool) (hsl : a.h = .sl (numsA .u8 a.hl) a.hl.length tt) (hk : (x.kind == 2) = false) (hk5 : (x.kind == 5) = false) (hmay : mayX x c 4 = false) (howns : ownsS ns n c = false) : evCall TE (m + 30) from_ (.fn 9 [] []) [.agg [.sl (nodesA ns) ns.length t, .int .u32 gen], .agg (credL c), .agg (argL a), .agg (worldL ss sn bo)] h = some (.ret (.tup [.agg [.sl (nodesA (ns.map cloneN)) ns.length true, .int .u32 gen], .agg (ansA a.proc { stat := 13, ha := true, at_ := attrsS x n })]), h) := by
  have cT : ∀ (h : H), (evAll TE (m + 29)).1 9 (.fn 30 [] []) [.agg [.sl (nodesA ns) ns.length t, .int .u32 gen]] h = some (.ret (.agg [.sl (nodesA (ns.map cloneN)) ns.length true, .int .u32 gen]), h) := fun h => twinL_c (m + 27) h ns t gen hok hlen hlen2
  have cD : ∀ (f : FuncId) (h : H), (evAll TE (m + 29)).1 f (.fn 32 [] []) [.int .u32 a.proc] h = some (.ret (.bool (doesS a.proc)), h) := fun f h => does_c (m + 27) f h a.proc
  have cK : ∀ (f : FuncId) (h : H), (evAll TE (m + 29)).1 f (.fn 7 [] []) [.agg [.sl (nodesA ns) ns.length t, .int .u32 gen]] h = some (.ret (.bool true), h) := hK
  have cN : ∀ (f : FuncId) (h : H), (evAll TE (m + 29)).1 f (.fn 26 [] []) [.agg [.int .u32 ss, .int .u32 sn]] h = some (.ret (.bool (nanoOk sn)), h) := fun f h => times_c (m + 28) f h ss sn
  have hone1 := cred_one hc
  have hone2 := args_one ha
  have hone3 := work_one (ns := ns) (gen := gen) (ss := ss) (sn := sn) (bo := bo) hc ha
  have htop3 := work_top (ns := ns) (gen := gen) (ss := ss) (sn := sn) (bo := bo) hc ha
  clear hK
  have hcl : cleanL [.agg [.sl (nodesA ns) ns.length t, .int .u32 gen], .agg (credL c), .agg (argL a), .agg (worldL ss sn bo)] = true := by
    have h1 := row_clean hc.1
    have h2 := row_clean ha.h
    have h3 := row_clean ha.h2
    have h4 := row_clean ha.data
    simp [cleanL, AV.clean, credL, argL, worldL, h1, h2, h3, h4]
  have cF : ∀ (f : FuncId) (h : H), (evAll TE (m + 29)).1 f (.fn 10 [] []) [.agg [.sl (nodesA ns) ns.length t, .int .u32 gen], a.h] h = some (.ret (.tup [.int .i64 n, .int .u32 0]), h) := hF
  have hd : doesS a.proc = true := by rw [hp]; rfl
  have hm : thereS (ns.map cloneN) n = true := by rw [thereS_clone]; exact hn
  have hmx : (ns.map cloneN)[n.toNat]? = some (cloneN x) := by rw [List.getElem?_map, hx]; rfl
  have hml : (ns.map cloneN).length = ns.length := List.length_map ..
  have hxf := hok x (List.mem_of_getElem? hx)
  have hmo : (cloneN x).ok := ⟨bytesC_ok hxf.1.1, entsC_ok hxf.1.2⟩
  have hmv : nodesOk (.sl (nodesA (ns.map cloneN)) ns.length true) (ns.map cloneN) := .inr ⟨true, by rw [hml]⟩
  obtain ⟨hn1, hn2, _⟩ := there_facts hn
  have hn0 : 0 ≤ n := by omega
  have cA : ∀ (k : Nat) (f : FuncId) (h : H), (evAll TE (k + 2)).1 f (.fn 37 [] []) [.agg [.sl (nodesA (ns.map cloneN)) ns.length true, .int .u32 gen], .int .i64 n] h = some (.ret (.tup [.agg (attrsS x n), .bool true]), h) := fun k f h => attrs_some k f h _ _ hmv gen n (cloneN x) hm hmx hmo
  clear hF
  have cM : ∀ (k : Nat) (f : FuncId) (h : H), (evAll TE (k + 4)).1 f (.fn 15 [] []) [.agg [.sl (nodesA (ns.map cloneN)) ns.length true, .int .u32 gen], .int .i64 n, credA c, .int .u32 4] h = some (.ret (.bool (mayX x c 4)), h) := fun k f h => may_some k f h _ _ hmv gen n c 4 hc (cloneN x) hm hmx hmo
  obtain ⟨my, hmy⟩ : ∃ b, b = mayX x c 4 := ⟨_, rfl⟩
  rw [← hmy] at cM hmay
  have cO : ∀ (k : Nat) (f : FuncId) (h : H), (evAll TE (k + 3)).1 f (.fn 16 [] []) [.agg [.sl (nodesA (ns.map cloneN)) ns.length true, .int .u32 gen], .int .i64 n, credA c] h = some (.ret (.bool (ownsS ns n c)), h) := fun k f h => by
    have := owns_c k f h _ _ hmv (fun y hy => by
      obtain ⟨z, hz, rfl⟩ := List.mem_map.1 hy
      exact ⟨bytesC_ok (hok z hz).1.1, entsC_ok (hok z hz).1.2⟩) gen n c hc
    have e : ownsS (ns.map cloneN) n c = ownsS ns n c := by
      unfold ownsS
      rw [thereS_clone, hmx, hx]
      rfl
    rw [e] at this
    exact this
  obtain ⟨ow, how_⟩ : ∃ b, b = ownsS ns n c := ⟨_, rfl⟩
  rw [← how_] at cO howns
  unfold attrsS at cA ⊢
  generalize IntKind.wrap .u64 (sizeS x) = sz at cA ⊢
  generalize IntKind.wrap .u32 x.links = lk at cA ⊢
  generalize IntKind.wrap .u64 n = idn at cA ⊢
  obtain ⟨p, hv, hl, nm, h2, h2l, nm2, st, hasG, gs, gn, bits, off, cnt, mx, stb, dat, datl, tg, how, kd, vf, ck⟩ := a
  dsimp only at hsl cD cF hd hp hone2 hone3 htop3 hcl ⊢
  subst hsl
  subst hp
  have hcg := hc.1
  obtain ⟨cu, cg, cgs, cl⟩ := c
  unfold credA at cM cO
  dsimp only at hcg cM cO hone1 hone3 htop3 hcl ⊢
  rcases hcg with ⟨rfl, rfl⟩ | ⟨tc, rfl⟩
  · refine call_clean (fn := Try.f9) rfl Try.func9 rfl rfl hcl rfl rfl (Nat.le_of_ble_eq_true rfl) ?_
    conv => whnf
    (refine runK_ret (ev_box rfl hone2) ?_)
    conv => whnf
    with_reducible refine ⟨_, _, cT _, ?_⟩
    conv => whnf
    (refine ⟨by kernel_rfl, ?_⟩)
    conv => whnf
    (refine runK_ret (ev_box rfl hone2) ?_)
    conv => whnf
    (refine listK_of (if_pos (Nat.le_trans (Nat.le_of_eq htop3) (Nat.zero_le _))) ?_)
    conv => whnf
    (refine ⟨by kernel_rfl, ?_⟩)
    conv => whnf
    (refine call_raw (fn := Try.f31) rfl Try.func31 rfl rfl (Nat.le_of_ble_eq_true rfl) ?_)
    conv => whnf
    (refine ⟨by kernel_rfl, ?_⟩)
    conv => whnf
    with_reducible refine ⟨_, _, cD _ _, ?_⟩
    conv => whnf
    with_reducible refine ⟨_, _, cK _ _, ?_⟩
    conv => whnf
    with_reducible refine ⟨_, _, cN _ _, ?_⟩
    conv => whnf
    ((with_reducible cases z0 : nanoOk sn) <;> try exact Bool.noConfusion (Eq.trans (Eq.symm z0) hno))
    conv => whnf
    with_reducible refine ⟨_, _, cF _ _, ?_⟩
    conv => whnf
    (refine call_inline (fn := Try.f57) rfl Try.func57 rfl rfl ?_)
    conv => whnf
    (refine call_inline (fn := Try.f68) rfl Try.func68 rfl rfl ?_)
    conv => whnf
    with_reducible refine ⟨_, _, cA _ _ _, ?_⟩
    conv => whnf
    (refine ⟨by kernel_rfl, ?_⟩)
    conv => whnf
    (refine ⟨by kernel_rfl, ?_⟩)
    conv => whnf
    (refine call_inline (fn := Try.f69) rfl Try.func69 rfl rfl ?_)
    conv => whnf
    (refine runK_ret (ev_indexSl (sz := 25) rfl rfl rfl rfl hn0 hn2) ?_)
    conv => whnf
    (refine runK_ret (ev_loadV (z := 1) (v := .int .u32 x.kind) rfl rfl rfl ((nodesA_cell hmx 0 (by decide)).trans rfl)) ?_)
    conv => whnf
    (refine ⟨by kernel_rfl, ?_⟩)
    conv => whnf
    ((with_reducible cases z1 : x.kind == Int.ofNat 2) <;> try exact Bool.noConfusion (Eq.trans (Eq.symm z1) hk))
    conv => whnf
    (refine call_inline (fn := Try.f69) rfl Try.func69 rfl rfl ?_)
    conv => whnf
    (refine runK_ret (ev_indexSl (sz := 25) rfl rfl rfl rfl hn0 hn2) ?_)
    conv => whnf
    (refine runK_ret (ev_loadV (z := 1) (v := .int .u32 x.kind) rfl rfl rfl ((nodesA_cell hmx 0 (by decide)).trans rfl)) ?_)
    conv => whnf
    (refine ⟨by kernel_rfl, ?_⟩)
    conv => whnf
    ((with_reducible cases z2 : x.kind == Int.ofNat 5) <;> try exact Bool.noConfusion (Eq.trans (Eq.symm z2) hk5))
    conv => whnf
    with_reducible refine ⟨_, _, cM _ _ _, ?_⟩
    conv => whnf
    (refine ⟨by kernel_rfl, ?_⟩)
    conv => whnf
    ((with_reducible cases z3 : my) <;> try exact Bool.noConfusion (Eq.trans (Eq.symm z3) hmay))
    conv => whnf
    with_reducible refine ⟨_, _, cO _ _ _, ?_⟩
    conv => whnf
    (refine ⟨by kernel_rfl, ?_⟩)
    conv => whnf
    (refine ⟨by kernel_rfl, ?_⟩)
    conv => whnf
    ((with_reducible cases z4 : ow) <;> try exact Bool.noConfusion (Eq.trans (Eq.symm z4) howns))
    conv => whnf
    (refine ⟨by kernel_rfl, ?_⟩)
    conv => whnf
    rfl
  · refine call_clean (fn := Try.f9) rfl Try.func9 rfl rfl hcl rfl rfl (Nat.le_of_ble_eq_true rfl) ?_
    conv => whnf
    (refine runK_ret (ev_box rfl hone2) ?_)
    conv => whnf
    with_reducible refine ⟨_, _, cT _, ?_⟩
    conv => whnf
    (refine ⟨by kernel_rfl, ?_⟩)
    conv => whnf
    (refine runK_ret (ev_box rfl hone2) ?_)
    conv => whnf
    (refine listK_of (if_pos (Nat.le_trans (Nat.le_of_eq htop3) (Nat.zero_le _))) ?_)
    conv => whnf
    (refine ⟨by kernel_rfl, ?_⟩)
    conv => whnf
    (refine call_raw (fn := Try.f31) rfl Try.func31 rfl rfl (Nat.le_of_ble_eq_true rfl) ?_)
    conv => whnf
    (refine ⟨by kernel_rfl, ?_⟩)
    conv => whnf
    with_reducible refine ⟨_, _, cD _ _, ?_⟩
    conv => whnf
    with_reducible refine ⟨_, _, cK _ _, ?_⟩
    conv => whnf
    with_reducible refine ⟨_, _, cN _ _, ?_⟩
    conv => whnf
    ((with_reducible cases z0 : nanoOk sn) <;> try exact Bool.noConfusion (Eq.trans (Eq.symm z0) hno))
    conv => whnf
    with_reducible refine ⟨_, _, cF _ _, ?_⟩
    conv => whnf
    (refine call_inline (fn := Try.f57) rfl Try.func57 rfl rfl ?_)
    conv => whnf
    (refine call_inline (fn := Try.f68) rfl Try.func68 rfl rfl ?_)
    conv => whnf
    with_reducible refine ⟨_, _, cA _ _ _, ?_⟩
    conv => whnf
    (refine ⟨by kernel_rfl, ?_⟩)
    conv => whnf
    (refine ⟨by kernel_rfl, ?_⟩)
    conv => whnf
    (refine call_inline (fn := Try.f69) rfl Try.func69 rfl rfl ?_)
    conv => whnf
    (refine runK_ret (ev_indexSl (sz := 25) rfl rfl rfl rfl hn0 hn2) ?_)
    conv => whnf
    (refine runK_ret (ev_loadV (z := 1) (v := .int .u32 x.kind) rfl rfl rfl ((nodesA_cell hmx 0 (by decide)).trans rfl)) ?_)
    conv => whnf
    (refine ⟨by kernel_rfl, ?_⟩)
    conv => whnf
    ((with_reducible cases z1 : x.kind == Int.ofNat 2) <;> try exact Bool.noConfusion (Eq.trans (Eq.symm z1) hk))
    conv => whnf
    (refine call_inline (fn := Try.f69) rfl Try.func69 rfl rfl ?_)
    conv => whnf
    (refine runK_ret (ev_indexSl (sz := 25) rfl rfl rfl rfl hn0 hn2) ?_)
    conv => whnf
    (refine runK_ret (ev_loadV (z := 1) (v := .int .u32 x.kind) rfl rfl rfl ((nodesA_cell hmx 0 (by decide)).trans rfl)) ?_)
    conv => whnf
    (refine ⟨by kernel_rfl, ?_⟩)
    conv => whnf
    ((with_reducible cases z2 : x.kind == Int.ofNat 5) <;> try exact Bool.noConfusion (Eq.trans (Eq.symm z2) hk5))
    conv => whnf
    with_reducible refine ⟨_, _, cM _ _ _, ?_⟩
    conv => whnf
    (refine ⟨by kernel_rfl, ?_⟩)
    conv => whnf
    ((with_reducible cases z3 : my) <;> try exact Bool.noConfusion (Eq.trans (Eq.symm z3) hmay))
    conv => whnf
    with_reducible refine ⟨_, _, cO _ _ _, ?_⟩
    conv => whnf
    (refine ⟨by kernel_rfl, ?_⟩)
    conv => whnf
    (refine ⟨by kernel_rfl, ?_⟩)
    conv => whnf
    ((with_reducible cases z4 : ow) <;> try exact Bool.noConfusion (Eq.trans (Eq.symm z4) howns))
    conv => whnf
    (refine ⟨by kernel_rfl, ?_⟩)
    conv => whnf
    rfl
end Go.Proofs.Ytnkeijebkpjdgaa.Ab
