import Derived.Test.YtnkeijebkpjdgaaMLookReads20
import Derived.Test.YtnkeijebkpjdgaaMLookReads21
import Derived.Test.YtnkeijebkpjdgaaMLookReads15
import Derived.Test.YtnkeijebkpjdgaaMLookReads17
import Derived.Test.YtnkeijebkpjdgaaMLookReads18
import Derived.Test.YtnkeijebkpjdgaaMLookReads13
import Derived.Test.YtnkeijebkpjdgaaMLookReads19
set_option linter.unusedVariables false
set_option linter.unusedSimpArgs false
/- Over the engine: what only looks: a file of which nothing is read. -/
namespace Go.Proofs.Ytnkeijebkpjdgaa.Ab
open Go Go.RowKit

set_option maxRecDepth 100000
section
variable {P : Program} {flat : TypeId → Option (List Nat)} {nid : Nat} {ρ : Operand → AV}
end
set_option maxHeartbeats 16000000 in
theorem look_read_none (m : Nat) (from_ : FuncId) (h : H) (ns : List NodeS) (t : Bool) (gen : Int) (c : CredS) (hc : c.ok) (a : ArgsS) (ha : a.ok) (ss sn : Int) (bo : Nat → Int) (hok : ∀ x ∈ ns, x.fit) (hlen : ns.length ≤ 1025) (hlen2 : ns ≠ []) (hK : ∀ (f : FuncId) (h : H), evCall TE (m + 29) f (.fn 7 [] []) [.agg [.sl (nodesA ns) ns.length t, .int .u32 gen]] h = some (.ret (.bool true), h)) (hp : a.proc = 6) (hno : nanoOk sn = true) (n : Int) (x : NodeS) (hn : thereS ns n = true) (hx : ns[n.toNat]? = some x) (hF : ∀ (f : FuncId) (h : H), evCall TE (m + 29) f (.fn 10 [] []) [.agg [.sl (nodesA ns) ns.length t, .int .u32 gen], a.h] h = some (.ret (.tup [.int .i64 n, .int .u32 0]), h)) (tt : Bool) (hsl : a.h = .sl (numsA .u8 a.hl) a.hl.length tt) (hk : (x.kind == 2) = false) (hk5 : (x.kind == 5) = false) (hmay : mayX x c 4 = true) (td : Bool) (hda : x.data = .sl (numsA .u8 x.bytes) x.bytes.length td) (rest : List Int) (hJ0 : 0 ≤ (if IntKind.wrap .u64 (x.bytes.length : Int) < a.offset then IntKind.wrap .u64 (x.bytes.length : Int) else a.offset)) (hJ1 : (if IntKind.wrap .u64 (x.bytes.length : Int) < a.offset then IntKind.wrap .u64 (x.bytes.length : Int) else a.offset) ≤ x.bytes.length) (hrest : rest = x.bytes.drop (if IntKind.wrap .u64 (x.bytes.length : Int) < a.offset then IntKind.wrap .u64 (x.bytes.length : Int) else a.offset).toNat) (hM0 : 0 ≤ (if (32768 : Int) < (if IntKind.wrap .u64 a.count < IntKind.wrap .u64 (rest.length : Int) then IntKind.wrap .u64 a.count else IntKind.wrap .u64 (rest.length : Int)) then 32768 else (if IntKind.wrap .u64 a.count < IntKind.wrap .u64 (rest.length : Int) then IntKind.wrap .u64 a.count else IntKind.wrap .u64 (rest.length : Int)))) (hM1 : (if (32768 : Int) < (if IntKind.wrap .u64 a.count < IntKind.wrap .u64 (rest.length : Int) then IntKind.wrap .u64 a.count else IntKind.wrap .u64 (rest.length : Int)) then 32768 else (if IntKind.wrap .u64 a.count < IntKind.wrap .u64 (rest.length : Int) then IntKind.wrap .u64 a.count else IntKind.wrap .u64 (rest.length : Int))) ≤ rest.length) (hD : rest.take (if (32768 : Int) < (if IntKind.wrap .u64 a.count < IntKind.wrap .u64 (rest.length : Int) then IntKind.wrap .u64 a.count else IntKind.wrap .u64 (rest.length : Int)) then 32768 else (if IntKind.wrap .u64 a.count < IntKind.wrap .u64 (rest.length : Int) then IntKind.wrap .u64 a.count else IntKind.wrap .u64 (rest.length : Int))).toNat = []) : evCall TE (m + 30) from_ (.fn 9 [] []) [.agg [.sl (nodesA ns) ns.length t, .int .u32 gen], .agg (credL c), .agg (argL a), .agg (worldL ss sn bo)] h = some (.ret (.tup [.agg [.sl (nodesA (((ns.map cloneN).map cloneN).set n.toNat ({ cloneN (cloneN x) with rs := ss, rn := sn } : NodeS))) ns.length true, .int .u32 gen], .agg (ansA a.proc { stat := 0, ha := true, at_ := attrsS { x with rs := ss, rn := sn } n, count := IntKind.wrap .u32 (if (32768 : Int) < (if IntKind.wrap .u64 a.count < IntKind.wrap .u64 (rest.length : Int) then IntKind.wrap .u64 a.count else IntKind.wrap .u64 (rest.length : Int)) then 32768 else (if IntKind.wrap .u64 a.count < IntKind.wrap .u64 (rest.length : Int) then IntKind.wrap .u64 a.count else IntKind.wrap .u64 (rest.length : Int))), en := (if (32768 : Int) < (if IntKind.wrap .u64 a.count < IntKind.wrap .u64 (rest.length : Int) then IntKind.wrap .u64 a.count else IntKind.wrap .u64 (rest.length : Int)) then 32768 else (if IntKind.wrap .u64 a.count < IntKind.wrap .u64 (rest.length : Int) then IntKind.wrap .u64 a.count else IntKind.wrap .u64 (rest.length : Int))) == IntKind.wrap .u64 (rest.length : Int), data := .sl [] 0 true })]), h) := by
  have cT : ∀ (h : H), (evAll TE (m + 29)).1 9 (.fn 30 [] []) [.agg [.sl (nodesA ns) ns.length t, .int .u32 gen]] h = some (.ret (.agg [.sl (nodesA (ns.map cloneN)) ns.length true, .int .u32 gen]), h) := fun h => twinL_c (m + 27) h ns t gen hok hlen hlen2
  have cD : ∀ (f : FuncId) (h : H), (evAll TE (m + 29)).1 f (.fn 32 [] []) [.int .u32 a.proc] h = some (.ret (.bool (doesS a.proc)), h) := fun f h => does_c (m + 27) f h a.proc
  have cK : ∀ (f : FuncId) (h : H), (evAll TE (m + 29)).1 f (.fn 7 [] []) [.agg [.sl (nodesA ns) ns.length t, .int .u32 gen]] h = some (.ret (.bool true), h) := hK
  have cN : ∀ (f : FuncId) (h : H), (evAll TE (m + 29)).1 f (.fn 26 [] []) [.agg [.int .u32 ss, .int .u32 sn]] h = some (.ret (.bool (nanoOk sn)), h) := fun f h => times_c (m + 28) f h ss sn
  have hone1 := cred_one hc
  have hone2 := args_one ha
  have hone3 := work_one (ns := ns) (gen := gen) (ss := ss) (sn := sn) (bo := bo) hc ha
  have htop3 := work_top (ns := ns) (gen := gen) (ss := ss) (sn := sn) (bo := bo) hc ha
  clear hK
  have hcl : cleanL [.agg [.sl (nodesA ns) ns.length t, .int .u32 gen], .agg (credL c), .agg (argL a), .agg (worldL ss sn bo)] = true := by
    have h1 := row_clean hc.1
    have h2 := row_clean ha.h
    have h3 := row_clean ha.h2
    have h4 := row_clean ha.data
    simp [cleanL, AV.clean, credL, argL, worldL, h1, h2, h3, h4]
  have cF : ∀ (f : FuncId) (h : H), (evAll TE (m + 29)).1 f (.fn 10 [] []) [.agg [.sl (nodesA ns) ns.length t, .int .u32 gen], a.h] h = some (.ret (.tup [.int .i64 n, .int .u32 0]), h) := hF
  have hd : doesS a.proc = true := by rw [hp]; rfl
  have hm : thereS (ns.map cloneN) n = true := by rw [thereS_clone]; exact hn
  have hmx : (ns.map cloneN)[n.toNat]? = some (cloneN x) := by rw [List.getElem?_map, hx]; rfl
  have hml : (ns.map cloneN).length = ns.length := List.length_map ..
  have hxf := hok x (List.mem_of_getElem? hx)
  have hmo : (cloneN x).ok := ⟨bytesC_ok hxf.1.1, entsC_ok hxf.1.2⟩
  have hmv : nodesOk (.sl (nodesA (ns.map cloneN)) ns.length true) (ns.map cloneN) := .inr ⟨true, by rw [hml]⟩
  obtain ⟨hn1, hn2, _⟩ := there_facts hn
  have hn0 : 0 ≤ n := by omega
  have cA : ∀ (k : Nat) (f : FuncId) (h : H), (evAll TE (k + 2)).1 f (.fn 37 [] []) [.agg [.sl (nodesA (ns.map cloneN)) ns.length true, .int .u32 gen], .int .i64 n] h = some (.ret (.tup [.agg (attrsS x n), .bool true]), h) := fun k f h => attrs_some k f h _ _ hmv gen n (cloneN x) hm hmx hmo
  clear hF
  have hdA : (nodeA (cloneN x))[12]? = some (.sl (numsA .u8 x.bytes) x.bytes.length true) := by
    show some (cloneN x).data = _
    unfold cloneN
    dsimp only
    rw [hda]
    rfl
  have hs1 : ∀ {nid : Nat} {ρ : Operand → AV} {o lo : Operand}, ρ o = .sl (numsA .u8 x.bytes) x.bytes.length true → ρ lo = .int .u64 (if IntKind.wrap .u64 (x.bytes.length : Int) < a.offset then IntKind.wrap .u64 (x.bytes.length : Int) else a.offset) → evOp TE.P TE.flat nid (.slice 30 o (some lo) none none) ρ = .ret (.sl (numsA .u8 rest) rest.length true, .none) := fun ho hlo => by
    rw [ev_sliceFrom (sz := 1) rfl rfl ho hlo hJ0 hJ1 (by simp [numsA]), Nat.mul_one, numsA_drop, ← hrest, hrest, List.length_drop]
  have hs2 : ∀ {nid : Nat} {ρ : Operand → AV} {o hi : Operand}, ρ o = .sl (numsA .u8 rest) rest.length true → ρ hi = .int .u64 (if (32768 : Int) < (if IntKind.wrap .u64 a.count < IntKind.wrap .u64 (rest.length : Int) then IntKind.wrap .u64 a.count else IntKind.wrap .u64 (rest.length : Int)) then 32768 else (if IntKind.wrap .u64 a.count < IntKind.wrap .u64 (rest.length : Int) then IntKind.wrap .u64 a.count else IntKind.wrap .u64 (rest.length : Int))) → evOp TE.P TE.flat nid (.slice 30 o none (some hi) none) ρ = .ret (.sl [] 0 (true && decide ((if (32768 : Int) < (if IntKind.wrap .u64 a.count < IntKind.wrap .u64 (rest.length : Int) then IntKind.wrap .u64 a.count else IntKind.wrap .u64 (rest.length : Int)) then 32768 else (if IntKind.wrap .u64 a.count < IntKind.wrap .u64 (rest.length : Int) then IntKind.wrap .u64 a.count else IntKind.wrap .u64 (rest.length : Int))).toNat = rest.length)), .none) := fun ho hhi => by
    have hz : (if (32768 : Int) < (if IntKind.wrap .u64 a.count < IntKind.wrap .u64 (rest.length : Int) then IntKind.wrap .u64 a.count else IntKind.wrap .u64 (rest.length : Int)) then 32768 else (if IntKind.wrap .u64 a.count < IntKind.wrap .u64 (rest.length : Int) then IntKind.wrap .u64 a.count else IntKind.wrap .u64 (rest.length : Int))).toNat = 0 := by
      have := congrArg List.length hD
      rw [List.length_take, Nat.min_eq_left (by omega)] at this
      exact this
    rw [ev_sliceTo (sz := 1) rfl rfl ho hhi hM0 hM1 (by simp [numsA]; omega), Nat.mul_one, numsA_take, hD, hz]
    rfl
  have kb1 : ∀ (k : Nat) (f : FuncId) (h : H) (t : Bool), (evAll TE (k + 1)).1 f (.fn 50 [] []) [.sl [] 0 t] h = some (.ret (.sl [] 0 true), h) := fun k f h t => bytesClone_0 k f h t
  have kb4 : ∀ (k : Nat) (f : FuncId) (h : H) (t : Bool), (evAll TE (k + 1)).1 f (.fn 49 [] []) [.sl [] 0 t] h = some (.ret (.sl [] 0 true), h) := fun k f h t => bytesClip_0 k f h t
  have cM : ∀ (k : Nat) (f : FuncId) (h : H), (evAll TE (k + 4)).1 f (.fn 15 [] []) [.agg [.sl (nodesA (ns.map cloneN)) ns.length true, .int .u32 gen], .int .i64 n, credA c, .int .u32 4] h = some (.ret (.bool (mayX x c 4)), h) := fun k f h => may_some k f h _ _ hmv gen n c 4 hc (cloneN x) hm hmx hmo
  obtain ⟨my, hmy⟩ : ∃ b, b = mayX x c 4 := ⟨_, rfl⟩
  rw [← hmy] at cM hmay
  have cW : ∀ (K : AV → H → Prop) (KK : Nat), True := fun _ _ => trivial
  clear cW
  have hok2 : ∀ y ∈ ns.map cloneN, y.fit := fun y hy => by
    obtain ⟨z, hz, rfl⟩ := List.mem_map.1 hy
    exact ⟨⟨bytesC_ok (hok z hz).1.1, entsC_ok (hok z hz).1.2⟩, (hok z hz).2⟩
  have hne2 : ns.map cloneN ≠ [] := fun h => hlen2 (List.map_eq_nil_iff.1 h)
  have hzx : ((ns.map cloneN).map cloneN)[n.toNat]? = some (cloneN (cloneN x)) := by rw [List.getElem?_map, hmx]; rfl
  have hzl : ((ns.map cloneN).map cloneN).length = ns.length := by rw [List.length_map, hml]
  have hzo : ((cloneN (cloneN x))).ok := ⟨bytesC_ok hmo.1, entsC_ok hmo.2⟩
  obtain ⟨L, hL⟩ : ∃ L, L = ((ns.map cloneN).map cloneN) := ⟨_, rfl⟩
  rw [← hL]
  have hLx : L[n.toNat]? = some (cloneN (cloneN x)) := by rw [hL]; exact hzx
  have hLl : L.length = ns.length := by rw [hL]; exact hzl
  have hLok : ∀ y ∈ L.set n.toNat ({ cloneN (cloneN x) with rs := ss, rn := sn } : NodeS), y.ok := by
    intro y hy
    rcases List.mem_or_eq_of_mem_set hy with hy | rfl
    · rw [hL] at hy
      obtain ⟨z, hz, rfl⟩ := List.mem_map.1 hy
      exact ⟨bytesC_ok (hok2 z hz).1.1, entsC_ok (hok2 z hz).1.2⟩
    · exact hzo
  have hXk : thereS (L.set n.toNat ({ cloneN (cloneN x) with rs := ss, rn := sn } : NodeS)) n = true := by
    have h1 : thereS ((ns.map cloneN).map cloneN) n = true := by rw [thereS_clone]; exact hm
    rw [← hL] at h1
    unfold thereS kindS at h1 ⊢
    rw [List.length_set, List.getElem?_set_self (by omega)]
    rw [hLx] at h1
    exact h1
  have hXx : (L.set n.toNat ({ cloneN (cloneN x) with rs := ss, rn := sn } : NodeS))[n.toNat]? = some ({ cloneN (cloneN x) with rs := ss, rn := sn } : NodeS) := List.getElem?_set_self (by omega)
  have hXl : (L.set n.toNat ({ cloneN (cloneN x) with rs := ss, rn := sn } : NodeS)).length = ns.length := by rw [List.length_set, hLl]
  have cA3 : ∀ (k : Nat) (f : FuncId) (t : Bool), evCall TE (k + 2) f (.fn 37 [] []) [.agg [.sl (nodesA (L.set n.toNat ({ cloneN (cloneN x) with rs := ss, rn := sn } : NodeS))) ns.length t, .int .u32 gen], .int .i64 n] ⟨[], []⟩ = some (.ret (.tup [.agg (attrsS { x with rs := ss, rn := sn } n), .bool true]), ⟨[], []⟩) := fun k f t => attrs_some k f ⟨[], []⟩ _ _ (.inr ⟨t, by rw [hXl]⟩) gen n ({ cloneN (cloneN x) with rs := ss, rn := sn } : NodeS) hXk hXx hzo
  have hv1 : ((nodesA (ns.map cloneN)).length + 1) = (nodesA L).length + 1 := by rw [nodesA_len, nodesA_len, hml, hLl]
  have hv2 : ((nodesA (ns.map cloneN)).length + 1) = (nodesA (L.set n.toNat ({ cloneN (cloneN x) with rs := ss, rn := sn } : NodeS))).length + 1 := by rw [nodesA_len, nodesA_len, hml, hXl]
  have hfit : 0 + n.toNat * 25 + 6 + 2 ≤ (nodesA L).length := by rw [nodesA_len, hLl]; omega
  have hsl2 : (nodesA (L.set n.toNat ({ cloneN (cloneN x) with rs := ss, rn := sn } : NodeS))).length = ns.length * 25 := by rw [nodesA_len, hXl]
  have hcl3 : cleanL (nodesA (L.set n.toNat ({ cloneN (cloneN x) with rs := ss, rn := sn } : NodeS))) = true := nodesA_clean fun y hy => ⟨row_clean (hLok y hy).1, ents_clean (hLok y hy).2⟩
  unfold attrsS at cA cA3 ⊢
  generalize IntKind.wrap .u64 (sizeS x) = sz at cA cA3 ⊢
  generalize IntKind.wrap .u32 x.links = lk at cA cA3 ⊢
  generalize IntKind.wrap .u64 n = idn at cA cA3 ⊢
  obtain ⟨p, hv, hl, nm, h2, h2l, nm2, st, hasG, gs, gn, bits, off, cnt, mx, stb, dat, datl, tg, how, kd, vf, ck⟩ := a
  dsimp only at hsl cD cF hd hp hone2 hone3 htop3 hcl hJ0 hJ1 hrest hM0 hM1 hD hs1 hs2 ⊢
  subst hsl
  subst hp
  have hcg := hc.1
  obtain ⟨cu, cg, cgs, cl⟩ := c
  unfold credA at cM
  dsimp only at hcg cM hone1 hone3 htop3 hcl ⊢
  rcases hcg with ⟨rfl, rfl⟩ | ⟨tc, rfl⟩
  · refine call_cleanE (fn := Try.f9) rfl Try.func9 rfl rfl hcl rfl rfl (Nat.le_of_ble_eq_true rfl) ?_
    intro End hE
    conv => whnf
    (refine runK_ret (ev_box rfl hone2) ?_)
    conv => whnf
    with_reducible refine ⟨_, _, cT _, ?_⟩
    conv => whnf
    (refine ⟨by kernel_rfl, ?_⟩)
    conv => whnf
    (refine runK_ret (ev_box rfl hone2) ?_)
    conv => whnf
    (refine listK_of (if_pos (Nat.le_trans (Nat.le_of_eq htop3) (Nat.zero_le _))) ?_)
    conv => whnf
    (refine ⟨by kernel_rfl, ?_⟩)
    conv => whnf
    (refine call_raw (fn := Try.f31) rfl Try.func31 rfl rfl (Nat.le_of_ble_eq_true rfl) ?_)
    conv => whnf
    (refine ⟨by kernel_rfl, ?_⟩)
    conv => whnf
    with_reducible refine ⟨_, _, cD _ _, ?_⟩
    conv => whnf
    with_reducible refine ⟨_, _, cK _ _, ?_⟩
    conv => whnf
    with_reducible refine ⟨_, _, cN _ _, ?_⟩
    conv => whnf
    ((with_reducible cases z0 : nanoOk sn) <;> try exact Bool.noConfusion (Eq.trans (Eq.symm z0) hno))
    conv => whnf
    with_reducible refine ⟨_, _, cF _ _, ?_⟩
    conv => whnf
    (refine call_inline (fn := Try.f57) rfl Try.func57 rfl rfl ?_)
    conv => whnf
    (refine call_inline (fn := Try.f68) rfl Try.func68 rfl rfl ?_)
    conv => whnf
    with_reducible refine ⟨_, _, cA _ _ _, ?_⟩
    conv => whnf
    (refine ⟨by kernel_rfl, ?_⟩)
    conv => whnf
    (refine ⟨by kernel_rfl, ?_⟩)
    conv => whnf
    (refine call_inline (fn := Try.f69) rfl Try.func69 rfl rfl ?_)
    conv => whnf
    (refine runK_ret (ev_indexSl (sz := 25) rfl rfl rfl rfl hn0 hn2) ?_)
    conv => whnf
    (refine runK_ret (ev_loadV (z := 1) (v := .int .u32 x.kind) rfl rfl rfl ((nodesA_cell hmx 0 (by decide)).trans rfl)) ?_)
    conv => whnf
    (refine ⟨by kernel_rfl, ?_⟩)
    conv => whnf
    ((with_reducible cases z1 : x.kind == Int.ofNat 2) <;> try exact Bool.noConfusion (Eq.trans (Eq.symm z1) hk))
    conv => whnf
    (refine call_inline (fn := Try.f69) rfl Try.func69 rfl rfl ?_)
    conv => whnf
    (refine runK_ret (ev_indexSl (sz := 25) rfl rfl rfl rfl hn0 hn2) ?_)
    conv => whnf
    (refine runK_ret (ev_loadV (z := 1) (v := .int .u32 x.kind) rfl rfl rfl ((nodesA_cell hmx 0 (by decide)).trans rfl)) ?_)
    conv => whnf
    (refine ⟨by kernel_rfl, ?_⟩)
    conv => whnf
    ((with_reducible cases z2 : x.kind == Int.ofNat 5) <;> try exact Bool.noConfusion (Eq.trans (Eq.symm z2) hk5))
    conv => whnf
    with_reducible refine ⟨_, _, cM _ _ _, ?_⟩
    conv => whnf
    (refine ⟨by kernel_rfl, ?_⟩)
    conv => whnf
    ((with_reducible cases z3 : my) <;> try exact Bool.noConfusion (Eq.trans (Eq.symm z3) hmay))
    conv => whnf
    (refine ⟨by kernel_rfl, ?_⟩)
    conv => whnf
    (refine runK_ret (ev_indexSl (sz := 25) rfl rfl rfl rfl hn0 hn2) ?_)
    conv => whnf
    (refine runK_ret (ev_loadV (z := 1) rfl rfl rfl ((nodesA_cell hmx 12 (by decide)).trans hdA)) ?_)
    conv => whnf
    (refine ⟨by kernel_rfl, ?_⟩)
    conv => whnf
    (refine runK_ret (hs1 rfl rfl) ?_)
    conv => whnf
    (refine runK_ret (hs2 rfl rfl) ?_)
    conv => whnf
    with_reducible refine ⟨_, _, kb1 _ _ _ _, ?_⟩
    conv => whnf
    with_reducible refine ⟨_, _, kb4 _ _ _ _, ?_⟩
    conv => whnf
    (refine twinL_K (m + 26) 57 _ (ns.map cloneN) true gen hok2 (by rw [hml]; exact hlen) hne2 _ _ _ _ _ _ _ _ _ _ _ _ _ _ _ _ _ _ _ _ _ _ _ _ _ _ _ _ _ _ _ _ _ _ _ _ _ _ _ _ _ _ _ _ _ _ _ _ _ _ _ _ _ _ _ _ _ _ _ _ _ _ _ _ _ _ _ ns.length hml rfl ?_; intro L' hL'; obtain rfl : L = L' := hL.trans hL'.symm; clear hL')
    conv => whnf
    (refine runK_ret (ev_indexRsl (sz := 25) rfl rfl rfl rfl hn0 hn2) ?_)
    conv => whnf
    (refine runK_if ⟨hv1, rfl, hfit, .inl rfl⟩ (runK_ret rfl ?_))
    conv => whnf
    (refine listK_of (splice_nodes0 (k := 6) (x' := ({ cloneN (cloneN x) with rs := ss, rn := sn } : NodeS)) hLx (Nat.le_of_ble_eq_true rfl) rfl) ?_)
    conv => whnf
    (refine ⟨by kernel_rfl, ?_⟩)
    conv => whnf
    (refine call_inline (fn := Try.f53) rfl Try.func53 rfl rfl ?_)
    conv => whnf
    (refine call_inline (fn := Try.f68) rfl Try.func68 rfl rfl ?_)
    conv => whnf
    (refine ⟨_, _, call_lend rfl rfl (lend_tree2 (l := L.set n.toNat ({ cloneN (cloneN x) with rs := ss, rn := sn } : NodeS)) rfl hv2 hLok hXl rfl) rfl rfl (cA3 _ _ _), ?_⟩)
    conv => whnf
    (refine ⟨by kernel_rfl, ?_⟩)
    conv => whnf
    (refine ⟨by kernel_rfl, ?_⟩)
    conv => whnf
    (refine hE _ _ [(.agg [.rsl 70 0 ns.length (some ns.length) ((nodesA (ns.map cloneN)).length + 1), .int .u32 gen]), .agg (ansA 6 { stat := 0, ha := true, at_ := [.int .u32 x.kind, .int .u32 x.mode, .int .u32 lk, .int .u32 x.user, .int .u32 x.group, .int .u64 (IntKind.wrap .u64 (sizeS ({ x with rs := ss, rn := sn } : NodeS))), .int .u64 (IntKind.wrap .u64 (sizeS ({ x with rs := ss, rn := sn } : NodeS))), .int .u64 idn, .int .u32 ss, .int .u32 sn, .int .u32 x.ws, .int .u32 x.wn, .int .u32 x.ts, .int .u32 x.tn], count := IntKind.wrap .u32 (if (32768 : Int) < (if IntKind.wrap .u64 cnt < IntKind.wrap .u64 (rest.length : Int) then IntKind.wrap .u64 cnt else IntKind.wrap .u64 (rest.length : Int)) then 32768 else (if IntKind.wrap .u64 cnt < IntKind.wrap .u64 (rest.length : Int) then IntKind.wrap .u64 cnt else IntKind.wrap .u64 (rest.length : Int))), en := (if (32768 : Int) < (if IntKind.wrap .u64 cnt < IntKind.wrap .u64 (rest.length : Int) then IntKind.wrap .u64 cnt else IntKind.wrap .u64 (rest.length : Int)) then 32768 else (if IntKind.wrap .u64 cnt < IntKind.wrap .u64 (rest.length : Int) then IntKind.wrap .u64 cnt else IntKind.wrap .u64 (rest.length : Int))) == IntKind.wrap .u64 (rest.length : Int), data := .sl [] 0 true })] _ _ (.inr rfl) (by kernel_rfl) (leaveA_of (seal_tupR (seal_deep rfl hv2 rfl rfl (sealVL_clean _ _ _ hcl3) rfl hcl3 rfl rfl rfl rfl rfl hsl2 (Nat.le_of_ble_eq_true rfl)) rfl) rfl rfl) ?_)
    conv => whnf
    (rw [show tightA (some ns.length) ns.length = true from decide_eq_true rfl])
  · refine call_cleanE (fn := Try.f9) rfl Try.func9 rfl rfl hcl rfl rfl (Nat.le_of_ble_eq_true rfl) ?_
    intro End hE
    conv => whnf
    (refine runK_ret (ev_box rfl hone2) ?_)
    conv => whnf
    with_reducible refine ⟨_, _, cT _, ?_⟩
    conv => whnf
    (refine ⟨by kernel_rfl, ?_⟩)
    conv => whnf
    (refine runK_ret (ev_box rfl hone2) ?_)
    conv => whnf
    (refine listK_of (if_pos (Nat.le_trans (Nat.le_of_eq htop3) (Nat.zero_le _))) ?_)
    conv => whnf
    (refine ⟨by kernel_rfl, ?_⟩)
    conv => whnf
    (refine call_raw (fn := Try.f31) rfl Try.func31 rfl rfl (Nat.le_of_ble_eq_true rfl) ?_)
    conv => whnf
    (refine ⟨by kernel_rfl, ?_⟩)
    conv => whnf
    with_reducible refine ⟨_, _, cD _ _, ?_⟩
    conv => whnf
    with_reducible refine ⟨_, _, cK _ _, ?_⟩
    conv => whnf
    with_reducible refine ⟨_, _, cN _ _, ?_⟩
    conv => whnf
    ((with_reducible cases z0 : nanoOk sn) <;> try exact Bool.noConfusion (Eq.trans (Eq.symm z0) hno))
    conv => whnf
    with_reducible refine ⟨_, _, cF _ _, ?_⟩
    conv => whnf
    (refine call_inline (fn := Try.f57) rfl Try.func57 rfl rfl ?_)
    conv => whnf
    (refine call_inline (fn := Try.f68) rfl Try.func68 rfl rfl ?_)
    conv => whnf
    with_reducible refine ⟨_, _, cA _ _ _, ?_⟩
    conv => whnf
    (refine ⟨by kernel_rfl, ?_⟩)
    conv => whnf
    (refine ⟨by kernel_rfl, ?_⟩)
    conv => whnf
    (refine call_inline (fn := Try.f69) rfl Try.func69 rfl rfl ?_)
    conv => whnf
    (refine runK_ret (ev_indexSl (sz := 25) rfl rfl rfl rfl hn0 hn2) ?_)
    conv => whnf
    (refine runK_ret (ev_loadV (z := 1) (v := .int .u32 x.kind) rfl rfl rfl ((nodesA_cell hmx 0 (by decide)).trans rfl)) ?_)
    conv => whnf
    (refine ⟨by kernel_rfl, ?_⟩)
    conv => whnf
    ((with_reducible cases z1 : x.kind == Int.ofNat 2) <;> try exact Bool.noConfusion (Eq.trans (Eq.symm z1) hk))
    conv => whnf
    (refine call_inline (fn := Try.f69) rfl Try.func69 rfl rfl ?_)
    conv => whnf
    (refine runK_ret (ev_indexSl (sz := 25) rfl rfl rfl rfl hn0 hn2) ?_)
    conv => whnf
    (refine runK_ret (ev_loadV (z := 1) (v := .int .u32 x.kind) rfl rfl rfl ((nodesA_cell hmx 0 (by decide)).trans rfl)) ?_)
    conv => whnf
    (refine ⟨by kernel_rfl, ?_⟩)
    conv => whnf
    ((with_reducible cases z2 : x.kind == Int.ofNat 5) <;> try exact Bool.noConfusion (Eq.trans (Eq.symm z2) hk5))
    conv => whnf
    with_reducible refine ⟨_, _, cM _ _ _, ?_⟩
    conv => whnf
    (refine ⟨by kernel_rfl, ?_⟩)
    conv => whnf
    ((with_reducible cases z3 : my) <;> try exact Bool.noConfusion (Eq.trans (Eq.symm z3) hmay))
    conv => whnf
    (refine ⟨by kernel_rfl, ?_⟩)
    conv => whnf
    (refine runK_ret (ev_indexSl (sz := 25) rfl rfl rfl rfl hn0 hn2) ?_)
    conv => whnf
    (refine runK_ret (ev_loadV (z := 1) rfl rfl rfl ((nodesA_cell hmx 12 (by decide)).trans hdA)) ?_)
    conv => whnf
    (refine ⟨by kernel_rfl, ?_⟩)
    conv => whnf
    (refine runK_ret (hs1 rfl rfl) ?_)
    conv => whnf
    (refine runK_ret (hs2 rfl rfl) ?_)
    conv => whnf
    with_reducible refine ⟨_, _, kb1 _ _ _ _, ?_⟩
    conv => whnf
    with_reducible refine ⟨_, _, kb4 _ _ _ _, ?_⟩
    conv => whnf
    (refine twinL_K (m + 26) 57 _ (ns.map cloneN) true gen hok2 (by rw [hml]; exact hlen) hne2 _ _ _ _ _ _ _ _ _ _ _ _ _ _ _ _ _ _ _ _ _ _ _ _ _ _ _ _ _ _ _ _ _ _ _ _ _ _ _ _ _ _ _ _ _ _ _ _ _ _ _ _ _ _ _ _ _ _ _ _ _ _ _ _ _ _ _ ns.length hml rfl ?_; intro L' hL'; obtain rfl : L = L' := hL.trans hL'.symm; clear hL')
    conv => whnf
    (refine runK_ret (ev_indexRsl (sz := 25) rfl rfl rfl rfl hn0 hn2) ?_)
    conv => whnf
    (refine runK_if ⟨hv1, rfl, hfit, .inl rfl⟩ (runK_ret rfl ?_))
    conv => whnf
    (refine listK_of (splice_nodes0 (k := 6) (x' := ({ cloneN (cloneN x) with rs := ss, rn := sn } : NodeS)) hLx (Nat.le_of_ble_eq_true rfl) rfl) ?_)
    conv => whnf
    (refine ⟨by kernel_rfl, ?_⟩)
    conv => whnf
    (refine call_inline (fn := Try.f53) rfl Try.func53 rfl rfl ?_)
    conv => whnf
    (refine call_inline (fn := Try.f68) rfl Try.func68 rfl rfl ?_)
    conv => whnf
    (refine ⟨_, _, call_lend rfl rfl (lend_tree2 (l := L.set n.toNat ({ cloneN (cloneN x) with rs := ss, rn := sn } : NodeS)) rfl hv2 hLok hXl rfl) rfl rfl (cA3 _ _ _), ?_⟩)
    conv => whnf
    (refine ⟨by kernel_rfl, ?_⟩)
    conv => whnf
    (refine ⟨by kernel_rfl, ?_⟩)
    conv => whnf
    (refine hE _ _ [(.agg [.rsl 70 0 ns.length (some ns.length) ((nodesA (ns.map cloneN)).length + 1), .int .u32 gen]), .agg (ansA 6 { stat := 0, ha := true, at_ := [.int .u32 x.kind, .int .u32 x.mode, .int .u32 lk, .int .u32 x.user, .int .u32 x.group, .int .u64 (IntKind.wrap .u64 (sizeS ({ x with rs := ss, rn := sn } : NodeS))), .int .u64 (IntKind.wrap .u64 (sizeS ({ x with rs := ss, rn := sn } : NodeS))), .int .u64 idn, .int .u32 ss, .int .u32 sn, .int .u32 x.ws, .int .u32 x.wn, .int .u32 x.ts, .int .u32 x.tn], count := IntKind.wrap .u32 (if (32768 : Int) < (if IntKind.wrap .u64 cnt < IntKind.wrap .u64 (rest.length : Int) then IntKind.wrap .u64 cnt else IntKind.wrap .u64 (rest.length : Int)) then 32768 else (if IntKind.wrap .u64 cnt < IntKind.wrap .u64 (rest.length : Int) then IntKind.wrap .u64 cnt else IntKind.wrap .u64 (rest.length : Int))), en := (if (32768 : Int) < (if IntKind.wrap .u64 cnt < IntKind.wrap .u64 (rest.length : Int) then IntKind.wrap .u64 cnt else IntKind.wrap .u64 (rest.length : Int)) then 32768 else (if IntKind.wrap .u64 cnt < IntKind.wrap .u64 (rest.length : Int) then IntKind.wrap .u64 cnt else IntKind.wrap .u64 (rest.length : Int))) == IntKind.wrap .u64 (rest.length : Int), data := .sl [] 0 true })] _ _ (.inr rfl) (by kernel_rfl) (leaveA_of (seal_tupR (seal_deep rfl hv2 rfl rfl (sealVL_clean _ _ _ hcl3) rfl hcl3 rfl rfl rfl rfl rfl hsl2 (Nat.le_of_ble_eq_true rfl)) rfl) rfl rfl) ?_)
    conv => whnf
    (rw [show tightA (some ns.length) ns.length = true from decide_eq_true rfl])
end Go.Proofs.Ytnkeijebkpjdgaa.Ab
/- Over the engine: a node that is turned to one that may be. -/
namespace Go.Proofs.Ytnkeijebkpjdgaa.Ab
open Go Go.RowKit

/-- A node turned in what may turn. -/
structure Turned (x x' : NodeS) : Prop where
  kind : x'.kind = x.kind
  gen : x'.gen = x.gen
  links : x'.links = x.links
  ents : x'.ents = x.ents
  parent : x'.parent = x.parent
  next : x'.next = x.next
  mode : decide (x'.mode > 4095) = false
  rn : decide (x'.rn < 1000000000) = true
  wn : decide (x'.wn < 1000000000) = true
  tn : decide (x'.tn < 1000000000) = true
theorem nodeBad_turn {ns : List NodeS} {tg : Int} {g : List Int} {x x' : NodeS} (ht : Turned x x') (h : nodeBad ns tg g x = false) : nodeBad ns tg g x' = false := by
  have he : entriesS ns x' = entriesS ns x := by
    unfold entriesS
    rw [ht.ents, ht.next]
  unfold nodeBad at *
  rw [he, ht.gen, ht.kind, ht.mode, ht.rn, ht.wn, ht.tn]
  simp only [Bool.or_eq_false_iff] at h
  rw [h.1, h.2.1, h.2.2.2.2.2.2]
  rfl
theorem pass1_turn {ns : List NodeS} {tg : Int} {c' : Cnt} : ∀ (l : List NodeS) (k : Nat) (i : Int) (g : List Int) (c : Cnt) (x x' : NodeS), l[k]? = some x → Turned x x' → pass1 ns tg l i g c = some c' → pass1 ns tg (l.set k x') i g c = some c'
  | [], k, _, _, _, x, _, h, _, _ => by simp at h
  | y :: r, 0, i, g, c, x, x', h, ht, hp => by
    simp at h
    subst h
    rw [List.set_cons_zero, pass1, ht.kind, ht.gen, ht.ents]
    rw [pass1] at hp
    split at hp
    · rename_i hk
      rw [if_pos hk]
      split at hp
      · cases hp
      · rename_i hb
        have hb : nodeBad ns tg g y = false := by simpa using hb
        rw [nodeBad_turn ht hb, if_neg (fun h => Bool.noConfusion h)]
        exact hp
    · rename_i hk
      rw [if_neg hk]
      exact hp
  | y :: r, k + 1, i, g, c, x, x', h, ht, hp => by
    rw [List.set_cons_succ, pass1]
    rw [pass1] at hp
    split at hp
    · rename_i hk
      rw [if_pos hk]
      split at hp
      · cases hp
      · rename_i hb
        rw [if_neg hb]
        exact pass1_turn r k _ _ _ x x' (by simpa using h) ht hp
    · rename_i hk
      rw [if_neg hk]
      exact pass1_turn r k _ _ _ x x' (by simpa using h) ht hp
section
variable {ns : List NodeS} {n : Nat} {x x' : NodeS} (hx : ns[n]? = some x) (ht : Turned x x')
include hx ht
theorem parentS_turn (d : Int) : parentS (ns.set n x') d = parentS ns d := by
  obtain ⟨h1, _⟩ := List.getElem?_eq_some_iff.1 hx
  unfold parentS
  by_cases hd : n = d.toNat
  · subst hd
    rw [List.getElem?_set_self h1, hx]
    exact ht.parent
  · rw [List.getElem?_set_ne hd]
theorem withinS_turn (top : Int) : ∀ (k : Nat) (d : Int), withinS (ns.set n x') top k d = withinS ns top k d
  | 0, _ => rfl
  | k + 1, d => by rw [withinS, withinS, dirS_set hx ht.kind, parentS_turn hx ht, withinS_turn top k]
theorem nodeBad2_ns (c : Cnt) (i : Int) (y : NodeS) : nodeBad2 (ns.set n x') c i y = nodeBad2 ns c i y := by
  unfold nodeBad2
  rw [withinS_turn hx ht, List.length_set]
theorem pass2_ns (c : Cnt) : ∀ (l : List NodeS) (i : Int), pass2 (ns.set n x') c l i = pass2 ns c l i
  | [], _ => rfl
  | y :: r, i => by rw [pass2, pass2, nodeBad2_ns hx ht, pass2_ns c r]
end
theorem pass2_turn {ns : List NodeS} {c : Cnt} : ∀ (l : List NodeS) (k : Nat) (i : Int) (x x' : NodeS), l[k]? = some x → Turned x x' → pass2 ns c (l.set k x') i = pass2 ns c l i
  | [], k, _, x, _, h, _ => by simp at h
  | y :: r, 0, i, x, x', h, ht => by
    simp at h
    subst h
    have hb : nodeBad2 ns c i x' = nodeBad2 ns c i y := by
      unfold nodeBad2
      rw [ht.kind, ht.links, ht.parent]
    rw [List.set_cons_zero, pass2, pass2, hb, ht.kind]
  | y :: r, k + 1, i, x, x', h, ht => by
    rw [List.set_cons_succ, pass2, pass2, pass2_turn r k _ x x' (by simpa using h) ht]
/-- A tree that may be stays one. -/
theorem checkS_turn {ns : List NodeS} {tg : Int} {n : Nat} {x x' : NodeS} (h : checkS ns tg = true) (hx : ns[n]? = some x) (ht : Turned x x') (ho : onlyS x' = true) : checkS (ns.set n x') tg = true := by
  obtain ⟨h1, h2, c, h3, h4⟩ := checkS_has h
  have hp : preBad (ns.set n x') = false := by
    unfold preBad at *
    rw [List.length_set, kindS_set hx ht.kind, dirS_set hx ht.kind, parentS_turn hx ht, thereS_set hx ht.kind]
    exact h1
  have ha : anyBad (ns.set n x') = false := by
    unfold anyBad at *
    rw [List.any_eq_false] at h2 ⊢
    intro y hy
    rcases List.mem_or_eq_of_mem_set hy with hy | rfl
    · exact h2 y hy
    · rw [ho]
      decide
  unfold checkS
  rw [hp, ha, List.length_set, pass1_ns hx ht.kind, pass1_turn ns n _ _ _ x x' hx ht h3]
  simp only [pass2_ns hx ht, pass2_turn ns n 0 x x' hx ht, h4]
  rfl
end Go.Proofs.Ytnkeijebkpjdgaa.Ab
/- Over the engine: what is set keeps a tree. -/
namespace Go.Proofs.Ytnkeijebkpjdgaa.Ab
open Go Go.RowKit

end Go.Proofs.Ytnkeijebkpjdgaa.Ab
/- Over the engine: a tree that may be stays one, whatever is set of a node. -/
namespace Go.Proofs.Ytnkeijebkpjdgaa.Ab
open Go Go.RowKit

/-- What each node of a tree that may be has. -/
theorem node_facts {ns : List NodeS} {tg : Int} {x : NodeS} (h : checkS ns tg = true) (hx : x ∈ ns) (hk : (x.kind != 0) = true) : x.mode ≤ 4095 ∧ x.rn < 1000000000 ∧ x.wn < 1000000000 ∧ x.tn < 1000000000 := by
  obtain ⟨_, _, c, h1, _⟩ := checkS_has h
  have key : (decide (x.mode > 4095) || (!decide (x.rn < 1000000000) || (!decide (x.wn < 1000000000) || !decide (x.tn < 1000000000)))) = false := by
    cases hq : (decide (x.mode > 4095) || (!decide (x.rn < 1000000000) || (!decide (x.wn < 1000000000) || !decide (x.tn < 1000000000)))) with
    | false => rfl
    | true =>
      have := pass1_bad (ns := ns) (tg := tg) ns 0 [] (cnt0 ns.length) ⟨x, hx, hk, fun g => by
        unfold nodeBad
        simp only [Bool.or_eq_true] at hq ⊢
        rcases hq with hq | hq | hq | hq
        · exact .inr (.inr (.inl hq))
        · exact .inr (.inr (.inr (.inl hq)))
        · exact .inr (.inr (.inr (.inr (.inl hq))))
        · exact .inr (.inr (.inr (.inr (.inr (.inl hq)))))⟩
      rw [this] at h1
      cases h1
  simp only [Bool.or_eq_false_iff, Bool.not_eq_false', decide_eq_false_iff_not, decide_eq_true_eq] at key
  obtain ⟨k1, k2, k3, k4⟩ := key
  exact ⟨by omega, k2, k3, k4⟩
theorem there_kind {ns : List NodeS} {n : Int} {x : NodeS} (hn : thereS ns n = true) (hx : ns[n.toNat]? = some x) : (x.kind != 0) = true := by
  unfold thereS kindS at hn
  rw [hx] at hn
  simp only [Bool.and_eq_true] at hn
  exact hn.2.2
end Go.Proofs.Ytnkeijebkpjdgaa.Ab
/- Over the engine: what a tree that may be is found by, in plain words. -/
namespace Go.Proofs.Ytnkeijebkpjdgaa.Ab
open Go Go.RowKit

/-- Bytes as a text. -/
def keyS (l : List Int) : List UInt8 := l.map fun b => UInt8.ofNat b.toNat
/-! A tree that may be. -/
section
variable {ns : List NodeS} {tg : Int}
end
/-- The handles of the nodes ahead of one. -/
def handleK (ns : List NodeS) (n : Nat) : List Int := bytesS (IntKind.wrap .u32 n) (genS ns n)
def keysTo (ns : List NodeS) : Nat → List EntryS
  | 0 => []
  | n + 1 => if thereS ns n = true then keysTo ns n ++ [⟨keyS (handleK ns n), 0, 0⟩] else keysTo ns n
end Go.Proofs.Ytnkeijebkpjdgaa.Ab
/- Over the engine: whatever is looked at, the tree stays, but for when a file was read. -/
namespace Go.Proofs.Ytnkeijebkpjdgaa.Ab
open Go Go.RowKit

set_option maxRecDepth 100000
section
variable {ns : List NodeS} {tg : Int}
end
/-- What look.Do answers. -/
structure LookR (m : Nat) (ns : List NodeS) (t : Bool) (gen : Int) (c : CredS) (a : ArgsS) (ss sn : Int) (bo : Nat → Int) (L : List NodeS) (r : ResS) : Prop where
  call : ∀ (f : FuncId) (h : H), evCall TE (m + 30) f (.fn 9 [] []) [.agg [.sl (nodesA ns) ns.length t, .int .u32 gen], .agg (credL c), .agg (argL a), .agg (worldL ss sn bo)] h = some (.ret (.tup [.agg [.sl (nodesA L) ns.length true, .int .u32 gen], .agg (ansA a.proc r)]), h)
  one : oneL (ansA a.proc r) = true
  top : topL (ansA a.proc r) = 0
  len : (ansA a.proc r).length = 97
def found17 (ns : List NodeS) (a : ArgsS) (n : Int) (x : NodeS) : Prop := findHA ns (getHS a.hl) = .tup [.int .i64 n, .int .u32 0] ∧ thereS ns n = true ∧ ns[n.toNat]? = some x
def readN (x : NodeS) (ss sn : Int) : NodeS := { cloneN (cloneN x) with rs := ss, rn := sn }
end Go.Proofs.Ytnkeijebkpjdgaa.Ab
/- Over the engine: a setting that comes as an argument. -/
namespace Go.Proofs.Ytnkeijebkpjdgaa.Ab
open Go Go.RowKit
/-- A tree, a node, somebody, what is to be set, and the world. -/
structure SettingS where
  t : TreeS
  n : Int
  c : CredS
  s : SetS
  ss : Int
  sn : Int
  bo : Nat → Int
def settingA (x : SettingS) : AV := .agg [x.t.v, .int .u32 x.t.gen, .int .i64 x.n, .int .u32 x.c.user, .int .u32 x.c.group, x.c.gs, .bool x.s.hm, .int .u32 x.s.mode, .bool x.s.hu, .int .u32 x.s.user, .bool x.s.hg, .int .u32 x.s.group, .bool x.s.hs, .int .u64 x.s.size, .int .u32 x.s.rh, .int .u32 x.s.rs, .int .u32 x.s.rn, .int .u32 x.s.wh, .int .u32 x.s.ws, .int .u32 x.s.wn,
  .int .u32 x.ss, .int .u32 x.sn, .int .u8 (x.bo 0), .int .u8 (x.bo 1), .int .u8 (x.bo 2), .int .u8 (x.bo 3), .int .u8 (x.bo 4), .int .u8 (x.bo 5), .int .u8 (x.bo 6), .int .u8 (x.bo 7)]
def setTyL : List Ty := [.bool, .int .u32, .bool, .int .u32, .bool, .int .u32, .bool, .int .u64, .int .u32, .seq [.int .u32, .int .u32], .int .u32, .seq [.int .u32, .int .u32]]
def worldTyL : List Ty := [.seq [.int .u32, .int .u32], .seq [.int .u8, .int .u8, .int .u8, .int .u8, .int .u8, .int .u8, .int .u8, .int .u8]]
def settingTyL (B : Nat) : List Ty := [.seq (treeTyL B), .int .i64, .seq credTyL, .seq setTyL, .seq worldTyL]
structure SettingS.ok (x : SettingS) : Prop where
  t : x.t.ok
  c : x.c.ok
  size : 0 ≤ x.s.size ∧ x.s.size < 18446744073709551616
end Go.Proofs.Ytnkeijebkpjdgaa.Ab
/- Over the engine: what is refused; the law GuardTwice. -/
namespace Go.Proofs.Ytnkeijebkpjdgaa.Ab
open Go Go.RowKit

set_option maxRecDepth 100000
def code4 (a1 a2 a3 a4 : Int) : Int := if (a1 != 0) = true then a1 else if (a2 != 0) = true then a2 else if (a3 != 0) = true then a3 else a4
end Go.Proofs.Ytnkeijebkpjdgaa.Ab
/- Over the engine: what is set again, in plain words. -/
namespace Go.Proofs.Ytnkeijebkpjdgaa.Ab
open Go Go.RowKit

set_option maxRecDepth 100000
section
variable (ns : List NodeS) (n : Int) (s : SetS) (ss sn : Int) (x : NodeS) (hok : ∀ x ∈ ns, x.fit) (hn : thereS ns n = true) (hx : ns[n.toNat]? = some x) (hsm : s.hs = true → s.size ≤ 65536)
include hx in
end
end Go.Proofs.Ytnkeijebkpjdgaa.Ab
/- Over the engine: a tree in which a file was read may be one. -/
namespace Go.Proofs.Ytnkeijebkpjdgaa.Ab
open Go Go.RowKit

theorem read_check {ns : List NodeS} {tg n ss sn : Int} {x : NodeS} (h : checkS ns tg = true) (hn : thereS ns n = true) (hx : ns[n.toNat]? = some x) (hno : nanoOk sn = true) : checkS (((ns.map cloneN).map cloneN).set n.toNat (readN x ss sn)) tg = true := by
  have hm := List.mem_of_getElem? hx
  have hk := there_kind hn hx
  obtain ⟨k1, k2, k3, k4⟩ := node_facts h hm hk
  have ho : onlyS x = true := by
    obtain ⟨_, ha, _⟩ := checkS_has h
    cases ho : onlyS x with
    | true => rfl
    | false => rw [anyBad_of hm ho] at ha; cases ha
  have e : (x.kind == 0) = false := by simpa [bne] using hk
  have ho2 : onlyS (readN x ss sn) = true := by
    unfold onlyS at ho ⊢
    rw [e, if_neg (fun h => Bool.noConfusion h)] at ho
    rw [show ((readN x ss sn).kind == 0) = false from e, if_neg (fun h => Bool.noConfusion h)]
    exact ho
  have hx2 : ((ns.map cloneN).map cloneN)[n.toNat]? = some (cloneN (cloneN x)) := by rw [List.getElem?_map, List.getElem?_map, hx]; rfl
  have ht : Turned (cloneN (cloneN x)) (readN x ss sn) := ⟨rfl, rfl, rfl, rfl, rfl, rfl, decide_eq_false (by show ¬ (x.mode > 4095); omega), hno, decide_eq_true k3, decide_eq_true k4⟩
  exact checkS_turn (by rw [checkS_clone, checkS_clone]; exact h) hx2 ht ho2
end Go.Proofs.Ytnkeijebkpjdgaa.Ab
/- Over the engine: the chapters' closed examples. -/
namespace Go.Proofs.Ytnkeijebkpjdgaa.Ab
open Go Go.RowKit

set_option maxRecDepth 100000
end Go.Proofs.Ytnkeijebkpjdgaa.Ab
/- Over the engine: the law NodesFound. -/
namespace Go.Proofs.Ytnkeijebkpjdgaa.Ab
open Go Go.RowKit

set_option maxRecDepth 100000
theorem toBytes_nums : ∀ l : List Int, toBytes (numsA .u8 l) = some (keyS l)
  | [] => rfl
  | b :: r => by
    show (toBytes (numsA .u8 r)).map (UInt8.ofNat b.toNat :: ·) = _
    rw [toBytes_nums r]
    rfl
section
variable {P : Program} {flat : TypeId → Option (List Nat)} {nid : Nat} {ρ : Operand → AV}
/-- Bytes as a text. -/
theorem ev_convStr {s d e : TypeId} {x : Operand} {l : List Int} {n : Nat} {t : Bool} (hs : P.underlying s = some (.slice e)) (hd : P.underlying d = some .string) (he : P.underlying e = some (.int .u8)) (hx : ρ x = .sl (numsA .u8 l) n t) (hn : l.length = n) : evOp P flat nid (.convert s d x) ρ = .ret (.str (keyS l), .none) := by
  have hl : (numsA .u8 l).length = n * 1 := by simp [numsA, hn]
  simp only [evOp, convertA, hs, hd, hx, he, lenOfA, sliceCells]
  rw [if_pos ⟨Nat.le_refl _, by omega⟩, if_pos ⟨trivial, hl⟩, toBytes_nums]
end
end Go.Proofs.Ytnkeijebkpjdgaa.Ab
/- Over the engine: a file that is read piece by piece: the tree of a root with one file. -/
namespace Go.Proofs.Ytnkeijebkpjdgaa.Ab
open Go Go.RowKit

set_option maxRecDepth 100000
def bytesOf (s : List UInt8) : List Int := s.map fun b => (b.toNat : Int)
theorem byteCells_eq (s : List UInt8) : byteCells s = numsA .u8 (bytesOf s) := by
  unfold byteCells numsA bytesOf
  rw [List.map_map]
  rfl
theorem keyS_bytesOf : ∀ s : List UInt8, keyS (bytesOf s) = s
  | [] => rfl
  | b :: r => by
    have h := keyS_bytesOf r
    unfold keyS bytesOf at h ⊢
    rw [List.map_cons, List.map_cons, h]
    simp
theorem bytesOf_len (s : List UInt8) : (bytesOf s).length = s.length := by simp [bytesOf]
theorem bytesOf_drop (s : List UInt8) (k : Nat) : (bytesOf s).drop k = bytesOf (s.drop k) := by simp [bytesOf]
theorem bytesOf_take (s : List UInt8) (k : Nat) : (bytesOf s).take k = bytesOf (s.take k) := by simp [bytesOf]
def nodeZ : NodeS := ⟨0, 0, 0, 0, 0, 0, 0, 0, 0, 0, 0, 0, .sl0, [], fun _ => 0, [], .sl0, [], 0, 0⟩
def nodeR : NodeS := ⟨2, 0, 493, 0, 0, 2, 5, 0, 5, 0, 5, 0, .sl0, [], fun _ => 0, [], .sl [.str [102], .int .i64 2, .int .u64 3] 1 true, [⟨[102], 2, 3⟩], 1, 4⟩
def nodeF (mode user group : Int) (data : AV) (bytes : List Int) : NodeS := ⟨1, 1, mode, user, group, 1, 0, 0, 0, 0, 0, 0, data, bytes, fun _ => 0, [], .sl0, [], 0, 0⟩
/-- The tree of a root with one file of some bytes. -/
def treeF (mode user group : Int) (s : List UInt8) : List NodeS := [nodeZ, nodeR, nodeF mode user group (.sl (numsA .u8 (bytesOf s)) s.length false) (bytesOf s)]
theorem treeF_check (s : List UInt8) (h : s.length ≤ 5000) : checkS (treeF 384 5 5 s) 2 = true := by
  have h1 : preBad (treeF 384 5 5 s) = false := by
    skip
    kernel_rfl
  have h2 : anyBad (treeF 384 5 5 s) = false := by
    have ho : onlyS (nodeF 384 5 5 (.sl (numsA .u8 (bytesOf s)) s.length false) (bytesOf s)) = true := by
      show (true && (true && decide (((bytesOf s).length : Int) ≤ 65536))) = true
      rw [bytesOf_len]
      simp
      omega
    show (!onlyS nodeZ || (!onlyS nodeR || (!onlyS (nodeF 384 5 5 (.sl (numsA .u8 (bytesOf s)) s.length false) (bytesOf s)) || false))) = false
    rw [ho]
    rfl
  have h3 : (match pass1 (treeF 384 5 5 s) 2 (treeF 384 5 5 s) 0 [] (cnt0 (treeF 384 5 5 s).length) with
    | some c => pass2 (treeF 384 5 5 s) c (treeF 384 5 5 s) 0
    | none => false) = true := by
    skip
    kernel_rfl
  unfold checkS
  rw [h1, h2]
  exact h3
end Go.Proofs.Ytnkeijebkpjdgaa.Ab
/- Over the engine: a file that is read piece by piece: plain facts. -/
namespace Go.Proofs.Ytnkeijebkpjdgaa.Ab
open Go Go.RowKit

set_option maxRecDepth 100000
/-- What is kept of the tree while its file is read. -/
structure Rd (s : List UInt8) (ns : List NodeS) : Prop where
  ck : checkS ns 2 = true
  fit : ∀ x ∈ ns, x.fit
  few : ∀ x ∈ ns, x.few
  len : ns.length = 3
  f : ∃ f, ns[2]? = some f ∧ f.kind = 1 ∧ f.gen = 1 ∧ f.mode = 384 ∧ f.user = 5 ∧ f.bytes = bytesOf s ∧ ∃ tt, f.data = .sl (numsA .u8 (bytesOf s)) s.length tt
theorem clone_fit {x : NodeS} (h : x.fit) : (cloneN x).fit := by
  obtain ⟨⟨h1, h2⟩, h3, h4⟩ := h
  refine ⟨⟨?_, ?_⟩, h3, h4⟩
  · rcases h1 with ⟨e, e2⟩ | ⟨t, e⟩
    · refine .inl ⟨?_, e2⟩
      show rowC _ _ x.data = .sl0
      rw [e]
      rfl
    · refine .inr ⟨true, ?_⟩
      show rowC _ _ x.data = _
      rw [e]
      rfl
  · rcases h2 with ⟨e, e2⟩ | ⟨t, e⟩
    · refine .inl ⟨?_, e2⟩
      show rowC _ _ x.list = .sl0
      rw [e]
      rfl
    · refine .inr ⟨true, ?_⟩
      show rowC _ _ x.list = _
      rw [e]
      rfl
theorem clone_few {x : NodeS} (h : x.few) : (cloneN x).few := ⟨h.target, h.ents, h.entsL⟩
theorem Rd.zero (s : List UInt8) (h : s.length ≤ 5000) : Rd s (treeF 384 5 5 s) := by
  refine ⟨treeF_check s h, ?_, ?_, rfl, _, rfl, rfl, rfl, rfl, rfl, rfl, _, rfl⟩
  rotate_left
  · intro x hx
    unfold treeF at hx
    simp only [List.mem_cons, List.not_mem_nil, or_false] at hx
    rcases hx with rfl | rfl | rfl
    · exact ⟨by decide, fun e he => absurd he List.not_mem_nil, by decide⟩
    · refine ⟨by decide, fun e he => ?_, by decide⟩
      have he : e ∈ [(⟨[102], 2, 3⟩ : EntryS)] := he
      rw [List.mem_singleton.1 he]
      decide
    · exact ⟨Nat.zero_le _, fun e he => absurd he List.not_mem_nil, Nat.zero_le _⟩
  intro x hx
  unfold treeF at hx
  simp only [List.mem_cons, List.not_mem_nil, or_false] at hx
  rcases hx with rfl | rfl | rfl
  · exact ⟨⟨.inl ⟨rfl, rfl⟩, .inl ⟨rfl, rfl⟩⟩, by decide, by decide⟩
  · exact ⟨⟨.inl ⟨rfl, rfl⟩, .inr ⟨true, rfl⟩⟩, by decide, by decide⟩
  · refine ⟨⟨.inr ⟨false, ?_⟩, .inl ⟨rfl, rfl⟩⟩, ?_, Nat.zero_le _⟩
    · show AV.sl (numsA .u8 (bytesOf s)) s.length false = .sl (numsA .u8 (bytesOf s)) (bytesOf s).length false
      rw [bytesOf_len]
    · show (bytesOf s).length ≤ _
      rw [bytesOf_len]
      omega
theorem Rd.next {s : List UInt8} {ns : List NodeS} (h : Rd s ns) {ss sn : Int} (hno : nanoOk sn = true) {f : NodeS} (hf : ns[2]? = some f) : Rd s (((ns.map cloneN).map cloneN).set (2 : Int).toNat (readN f ss sn)) := by
  obtain ⟨f', e, k1, k2, k3, k4, k5, tt, k6⟩ := h.f
  obtain rfl : f = f' := by
    rw [e] at hf
    exact (Option.some.inj hf).symm
  have ht : thereS ns 2 = true := by
    have hl := h.len
    have hkf : kindS ns 2 = 1 := by
      unfold kindS
      rw [show (2 : Int).toNat = 2 from rfl, hf]
      exact k1
    unfold thereS
    rw [hkf, hl]
    rfl
  refine ⟨read_check h.ck ht hf hno, ?_, ?_, ?_, readN f ss sn, ?_, k1, k2, k3, k4, k5, true, ?_⟩
  · intro x hx
    rcases List.mem_or_eq_of_mem_set hx with hx | rfl
    · rw [List.map_map] at hx
      obtain ⟨y, hy, rfl⟩ := List.mem_map.1 hx
      exact clone_fit (clone_fit (h.fit y hy))
    · have := clone_fit (clone_fit (h.fit f (List.mem_of_getElem? hf)))
      exact this
  · intro x hx
    rcases List.mem_or_eq_of_mem_set hx with hx | rfl
    · rw [List.map_map] at hx
      obtain ⟨y, hy, rfl⟩ := List.mem_map.1 hx
      exact clone_few (clone_few (h.few y hy))
    · have := clone_few (clone_few (h.few f (List.mem_of_getElem? hf)))
      exact ⟨this.target, this.ents, this.entsL⟩
  · simp [h.len]
  · rw [show (2 : Int).toNat = 2 from rfl, List.getElem?_set_self]
    simp [h.len]
  · show rowC (numsA .u8 f.bytes) f.bytes.length (rowC (numsA .u8 f.bytes) f.bytes.length f.data) = _
    rw [k5, k6, bytesOf_len]
    rfl
end Go.Proofs.Ytnkeijebkpjdgaa.Ab
/- Over the engine: one piece of a file is read. -/
namespace Go.Proofs.Ytnkeijebkpjdgaa.Ab
open Go Go.RowKit

set_option maxRecDepth 100000
def rdArgs (w : AV) (hl : List Int) (k cnt : Int) : ArgsS := ⟨6, w, hl, [], .sl0, [], [], ⟨false, 0, false, 0, false, 0, false, 0, 0, 0, 0, 0, 0, 0⟩, false, 0, 0, 0, k, cnt, 0, 0, .sl0, [], [], 0, 0, fun _ => 0, 0⟩
def rdL (ns : List NodeS) (f : NodeS) (i : Int) : List NodeS := ((ns.map cloneN).map cloneN).set (2 : Int).toNat (readN f i 0)
def rdRes (f : NodeS) (i : Int) (p : List UInt8) (e : Bool) : ResS := { stat := 0, ha := true, at_ := attrsS { f with rs := i, rn := 0 } 2, count := (p.length : Int), en := e, data := .sl (numsA .u8 (bytesOf p)) p.length true }
set_option maxHeartbeats 4000000 in
theorem read_step (m : Nat) (s : List UInt8) (hs : s.length ≤ 5000) (ns : List NodeS) (t : Bool) (hR : Rd s ns) (f : NodeS) (hf : ns[2]? = some f) (k : Nat) (hk : k ≤ s.length) (cnt : Int) (hc0 : 0 ≤ cnt) (hc : cnt ≤ 6000) (i : Int) (w : AV) (hl : List Int) (tw : Bool) (hw : w = .sl (numsA .u8 hl) hl.length tw) (hget : getHS hl = some (2, 1)) (p : List UInt8) (hp : p = (s.drop k).take cnt.toNat) (from_ : FuncId) (h : H) :
    evCall TE (m + 30) from_ (.fn 9 [] []) [.agg [.sl (nodesA ns) ns.length t, .int .u32 2], .agg (credL ⟨5, 0, .sl0, []⟩), .agg (argL (rdArgs w hl k cnt)), .agg (worldL i 0 fun _ => 0)] h =
      some (.ret (.tup [.agg [.sl (nodesA (rdL ns f i)) ns.length true, .int .u32 2], .agg (ansA 6 (rdRes f i p ((p.length : Int) == ((s.length - k : Nat) : Int))))]), h) := by
  obtain ⟨f', e, k1, k2, k3, k4, k5, tt, k6⟩ := hR.f
  obtain rfl : f = f' := by
    rw [e] at hf
    exact (Option.some.inj hf).symm
  have hlen := hR.len
  have hkf : kindS ns 2 = 1 := by
    unfold kindS
    rw [show (2 : Int).toNat = 2 from rfl, hf]
    exact k1
  have ht : thereS ns 2 = true := by
    unfold thereS
    rw [hkf, hlen]
    rfl
  have hg : genS ns 2 = 1 := by
    unfold genS
    rw [show (2 : Int).toNat = 2 from rfl, hf]
    exact k2
  have hne : ns ≠ [] := fun h => by rw [h] at hlen; simp at hlen
  have hla : (rdArgs w hl k cnt).ok := ⟨.inr ⟨tw, hw⟩, .inl ⟨rfl, rfl⟩, .inl ⟨rfl, rfl⟩⟩
  have hK : ∀ (f : FuncId) (h : H), evCall TE (m + 29) f (.fn 7 [] []) [.agg [.sl (nodesA ns) ns.length t, .int .u32 2]] h = some (.ret (.bool true), h) := fun f h => by
    have := check_c (m + 17) f h ns t 2 (fun x hx => ⟨(hR.fit x hx).1, hR.few x hx⟩) (by omega)
    rw [hR.ck] at this
    exact this
  have hF : ∀ (f : FuncId) (h : H), evCall TE (m + 29) f (.fn 10 [] []) [.agg [.sl (nodesA ns) ns.length t, .int .u32 2], w] h = some (.ret (.tup [.int .i64 2, .int .u32 0]), h) := fun f h => by
    have := find_c (m + 15) f h (.sl (nodesA ns) ns.length t) ns (.inr ⟨t, rfl⟩) 2 w hl (.inr ⟨tw, hw⟩)
    rw [hget] at this
    unfold findHA at this
    dsimp only at this
    rw [show IntKind.wrap .i64 (2 : Int) = 2 from rfl, ht, hg] at this
    exact this
  have hmay : mayX f ⟨5, 0, .sl0, []⟩ 4 = true := by
    unfold mayX
    rw [k3, k4]
    rfl
  have hrl : ((bytesOf s).drop k).length = s.length - k := by rw [List.length_drop, bytesOf_len]
  have hpl : p.length = min cnt.toNat (s.length - k) := by rw [hp, List.length_take, List.length_drop]
  have e0 : IntKind.wrap .u64 ((f.bytes).length : Int) = s.length := by rw [k5, bytesOf_len, IntKind.wrap_u64]; omega
  have eJ : (if IntKind.wrap .u64 ((f.bytes).length : Int) < (k : Int) then IntKind.wrap .u64 ((f.bytes).length : Int) else (k : Int)) = k := by
    rw [e0, if_neg (by omega)]
  obtain ⟨rest, hrest⟩ : ∃ rest, rest = (bytesOf s).drop k := ⟨_, rfl⟩
  rw [← hrest] at hrl
  have e1 : IntKind.wrap .u64 (rest.length : Int) = ((s.length - k : Nat) : Int) := by rw [hrl, IntKind.wrap_u64]; omega
  have e2 : IntKind.wrap .u64 cnt = cnt := by rw [IntKind.wrap_u64]; omega
  have eW : (if (32768 : Int) < (if IntKind.wrap .u64 cnt < IntKind.wrap .u64 (rest.length : Int) then IntKind.wrap .u64 cnt else IntKind.wrap .u64 (rest.length : Int)) then 32768 else (if IntKind.wrap .u64 cnt < IntKind.wrap .u64 (rest.length : Int) then IntKind.wrap .u64 cnt else IntKind.wrap .u64 (rest.length : Int))) = (p.length : Int) := by
    rw [e1, e2, hpl]
    split <;> (try split) <;> omega
  have hD : rest.take (p.length : Int).toNat = bytesOf p := by
    rw [hrest, Int.toNat_natCast, bytesOf_drop, bytesOf_take]
    congr 1
    rw [hpl, hp]
    rcases Nat.le_total cnt.toNat (s.length - k) with hh | hh
    · rw [Nat.min_eq_left hh]
    · rw [Nat.min_eq_right hh, List.take_of_length_le (by rw [List.length_drop]; omega), List.take_of_length_le (by rw [List.length_drop]; omega)]
  have hda : f.data = .sl (numsA .u8 f.bytes) f.bytes.length tt := by rw [k6, k5, bytesOf_len]
  have ew : IntKind.wrap .u32 (p.length : Int) = (p.length : Int) := by rw [IntKind.wrap_u32]; omega
  cases hb : bytesOf p with
  | nil =>
    have hp0 : p.length = 0 := by rw [← bytesOf_len, hb]; rfl
    have := look_read_none m from_ h ns t 2 ⟨5, 0, .sl0, []⟩ (⟨.inl ⟨rfl, rfl⟩, Nat.zero_le _⟩) (rdArgs w hl k cnt) hla i 0 (fun _ => 0) hR.fit (by omega) hne hK rfl rfl 2 f ht hf hF tw hw (by rw [k1]; rfl) (by rw [k1]; rfl) hmay tt hda rest
      (by show 0 ≤ (if IntKind.wrap .u64 ((f.bytes).length : Int) < (k : Int) then IntKind.wrap .u64 ((f.bytes).length : Int) else (k : Int)); rw [eJ]; omega)
      (by show (if IntKind.wrap .u64 ((f.bytes).length : Int) < (k : Int) then IntKind.wrap .u64 ((f.bytes).length : Int) else (k : Int)) ≤ _; rw [eJ, k5, bytesOf_len]; omega)
      (by show rest = (f.bytes).drop (if IntKind.wrap .u64 ((f.bytes).length : Int) < (k : Int) then IntKind.wrap .u64 ((f.bytes).length : Int) else (k : Int)).toNat; rw [eJ, hrest, k5, Int.toNat_natCast])
      (by show 0 ≤ (if (32768 : Int) < (if IntKind.wrap .u64 cnt < IntKind.wrap .u64 (rest.length : Int) then IntKind.wrap .u64 cnt else IntKind.wrap .u64 (rest.length : Int)) then 32768 else (if IntKind.wrap .u64 cnt < IntKind.wrap .u64 (rest.length : Int) then IntKind.wrap .u64 cnt else IntKind.wrap .u64 (rest.length : Int))); rw [eW]; omega)
      (by show (if (32768 : Int) < (if IntKind.wrap .u64 cnt < IntKind.wrap .u64 (rest.length : Int) then IntKind.wrap .u64 cnt else IntKind.wrap .u64 (rest.length : Int)) then 32768 else (if IntKind.wrap .u64 cnt < IntKind.wrap .u64 (rest.length : Int) then IntKind.wrap .u64 cnt else IntKind.wrap .u64 (rest.length : Int))) ≤ _; rw [eW, hrl, hpl]; omega)
      (by show rest.take (if (32768 : Int) < (if IntKind.wrap .u64 cnt < IntKind.wrap .u64 (rest.length : Int) then IntKind.wrap .u64 cnt else IntKind.wrap .u64 (rest.length : Int)) then 32768 else (if IntKind.wrap .u64 cnt < IntKind.wrap .u64 (rest.length : Int) then IntKind.wrap .u64 cnt else IntKind.wrap .u64 (rest.length : Int))).toNat = []; rw [eW, hD, hb])
    have eq : rdRes f i p ((p.length : Int) == ((s.length - k : Nat) : Int)) = { stat := 0, ha := true, at_ := attrsS { f with rs := i, rn := 0 } 2, count := IntKind.wrap .u32 (if (32768 : Int) < (if IntKind.wrap .u64 cnt < IntKind.wrap .u64 (rest.length : Int) then IntKind.wrap .u64 cnt else IntKind.wrap .u64 (rest.length : Int)) then 32768 else (if IntKind.wrap .u64 cnt < IntKind.wrap .u64 (rest.length : Int) then IntKind.wrap .u64 cnt else IntKind.wrap .u64 (rest.length : Int))), en := (if (32768 : Int) < (if IntKind.wrap .u64 cnt < IntKind.wrap .u64 (rest.length : Int) then IntKind.wrap .u64 cnt else IntKind.wrap .u64 (rest.length : Int)) then 32768 else (if IntKind.wrap .u64 cnt < IntKind.wrap .u64 (rest.length : Int) then IntKind.wrap .u64 cnt else IntKind.wrap .u64 (rest.length : Int))) == IntKind.wrap .u64 (rest.length : Int), data := .sl [] 0 true } := by
      unfold rdRes
      rw [eW, e1, ew, hb, hp0]
      rfl
    rw [eq]
    exact this
  | cons d0 dr =>
    have hpl2 : p.length = (d0 :: dr).length := by rw [← bytesOf_len, hb]
    have hdr : dr.length ≤ 40000 := by
      rw [List.length_cons] at hpl2
      omega
    have := look_read m from_ h ns t 2 ⟨5, 0, .sl0, []⟩ (⟨.inl ⟨rfl, rfl⟩, Nat.zero_le _⟩) (rdArgs w hl k cnt) hla i 0 (fun _ => 0) hR.fit (by omega) hne hK rfl rfl 2 f ht hf hF tw hw (by rw [k1]; rfl) (by rw [k1]; rfl) hmay tt hda rest
      (by show 0 ≤ (if IntKind.wrap .u64 ((f.bytes).length : Int) < (k : Int) then IntKind.wrap .u64 ((f.bytes).length : Int) else (k : Int)); rw [eJ]; omega)
      (by show (if IntKind.wrap .u64 ((f.bytes).length : Int) < (k : Int) then IntKind.wrap .u64 ((f.bytes).length : Int) else (k : Int)) ≤ _; rw [eJ, k5, bytesOf_len]; omega)
      (by show rest = (f.bytes).drop (if IntKind.wrap .u64 ((f.bytes).length : Int) < (k : Int) then IntKind.wrap .u64 ((f.bytes).length : Int) else (k : Int)).toNat; rw [eJ, hrest, k5, Int.toNat_natCast])
      (by show 0 ≤ (if (32768 : Int) < (if IntKind.wrap .u64 cnt < IntKind.wrap .u64 (rest.length : Int) then IntKind.wrap .u64 cnt else IntKind.wrap .u64 (rest.length : Int)) then 32768 else (if IntKind.wrap .u64 cnt < IntKind.wrap .u64 (rest.length : Int) then IntKind.wrap .u64 cnt else IntKind.wrap .u64 (rest.length : Int))); rw [eW]; omega)
      (by show (if (32768 : Int) < (if IntKind.wrap .u64 cnt < IntKind.wrap .u64 (rest.length : Int) then IntKind.wrap .u64 cnt else IntKind.wrap .u64 (rest.length : Int)) then 32768 else (if IntKind.wrap .u64 cnt < IntKind.wrap .u64 (rest.length : Int) then IntKind.wrap .u64 cnt else IntKind.wrap .u64 (rest.length : Int))) ≤ _; rw [eW, hrl, hpl]; omega) d0 dr
      (by show rest.take (if (32768 : Int) < (if IntKind.wrap .u64 cnt < IntKind.wrap .u64 (rest.length : Int) then IntKind.wrap .u64 cnt else IntKind.wrap .u64 (rest.length : Int)) then 32768 else (if IntKind.wrap .u64 cnt < IntKind.wrap .u64 (rest.length : Int) then IntKind.wrap .u64 cnt else IntKind.wrap .u64 (rest.length : Int))).toNat = _; rw [eW, hD, hb]) hdr
    have eq : rdRes f i p ((p.length : Int) == ((s.length - k : Nat) : Int)) = { stat := 0, ha := true, at_ := attrsS { f with rs := i, rn := 0 } 2, count := IntKind.wrap .u32 (if (32768 : Int) < (if IntKind.wrap .u64 cnt < IntKind.wrap .u64 (rest.length : Int) then IntKind.wrap .u64 cnt else IntKind.wrap .u64 (rest.length : Int)) then 32768 else (if IntKind.wrap .u64 cnt < IntKind.wrap .u64 (rest.length : Int) then IntKind.wrap .u64 cnt else IntKind.wrap .u64 (rest.length : Int))), en := (if (32768 : Int) < (if IntKind.wrap .u64 cnt < IntKind.wrap .u64 (rest.length : Int) then IntKind.wrap .u64 cnt else IntKind.wrap .u64 (rest.length : Int)) then 32768 else (if IntKind.wrap .u64 cnt < IntKind.wrap .u64 (rest.length : Int) then IntKind.wrap .u64 cnt else IntKind.wrap .u64 (rest.length : Int))) == IntKind.wrap .u64 (rest.length : Int), data := .sl (numsA .u8 (d0 :: dr)) (d0 :: dr).length true } := by
      unfold rdRes
      rw [eW, e1, ew, hb, ← hpl2]
    rw [eq]
    exact this
end Go.Proofs.Ytnkeijebkpjdgaa.Ab
/- Over the engine: the tree of a root with one file of any bytes. -/
namespace Go.Proofs.Ytnkeijebkpjdgaa.Ab
open Go Go.RowKit

set_option maxRecDepth 100000
theorem sealV_row {deep : List AB → List AV → List AV × List AB} {bs : List AB} {b n ver : Nat} {cap : Option Nat} {c : List AV} {i : BI} (hb : bs[b]? = some (.cells c i)) (hv : ver = verA i c.length) (hw : i.wr = true) (hcl : i.cl = true) (hl : c.length = n * i.sz) (hz : 0 < i.sz) : sealV deep bs (.rsl b 0 n cap ver) = (.sl c n (tightA cap n), bs.set b (.cells c { i with wr := false })) := by
  have hs : sealB deep bs b ver = some (c, i, bs.set b (.cells c { i with wr := false })) := by
    unfold sealB
    simp only [hb, hw, hcl, Bool.true_eq_false, if_false, if_true]
    rw [if_pos hv]
  simp only [sealV, hs]
  rw [if_pos ⟨by omega, hz⟩, if_pos ⟨trivial, hl⟩]
theorem sealL_clean : ∀ (k : Nat) (bs : List AB) (l : List AV), cleanL l = true → sealL k bs l = (l, bs)
  | 0, _, _, _ => rfl
  | k + 1, bs, l, h => sealVL_clean (sealL k) bs l h
theorem sealV_row2 {k : Nat} {bs : List AB} {b n ver : Nat} {cap : Option Nat} {c : List AV} {i : BI} (hb : bs[b]? = some (.cells c i)) (hv : ver = verA i c.length) (hw : i.wr = true) (hcl : i.cl = false) (hc : cleanL c = true) (hl : c.length = n * i.sz) (hz : 0 < i.sz) : sealV (sealL k) bs (.rsl b 0 n cap ver) = (.sl c n (tightA cap n), bs.set b (.cells c { i with cl := true, wr := false })) := by
  have hs : sealB (sealL k) bs b ver = some (c, i, bs.set b (.cells c { i with cl := true, wr := false })) := by
    unfold sealB
    simp only [hb, hw, hcl, sealL_clean k bs c hc, hc, Bool.true_eq_false, Bool.false_eq_true, if_false, if_true, beq_self_eq_true, Bool.and_self]
    rw [if_pos hv]
  simp only [sealV, hs]
  rw [if_pos ⟨by omega, hz⟩, if_pos ⟨trivial, hl⟩]
theorem sealVL_two {deep : List AB → List AV → List AV × List AB} {bs bs1 bs2 : List AB} {v1 w1 v2 w2 : AV} {a b d : List AV} (ha : cleanL a = true) (hb : cleanL b = true) (hd : cleanL d = true)
    (e1 : sealV deep bs v1 = (w1, bs1)) (e2 : sealV deep bs1 v2 = (w2, bs2)) : sealVL deep bs (a ++ (v1 :: (b ++ (v2 :: d)))) = (a ++ (w1 :: (b ++ (w2 :: d))), bs2) := by
  rw [sealVL_app, sealVL_clean deep bs a ha]
  simp only [sealVL, e1, sealVL_app, sealVL_clean deep _ b hb, e2, sealVL_clean deep _ d hd]
set_option maxHeartbeats 4000000 in
theorem withF_c (m : Nat) (from_ : FuncId) (h : H) (mode user group : Int) (s : List UInt8) : evCall TE (m + 6) from_ (.fn 12 [] []) [.int .u32 mode, .int .u32 user, .int .u32 group, .str s] h =
    some (.ret (.agg [.sl (nodesA (treeF mode user group s)) 3 false, .int .u32 2]), h) := by
  have cT : ∀ (f : FuncId) (h : H), (evAll TE (m + 4)).1 f (.fn 26 [] []) [.agg [.int .u32 5, .int .u32 0]] h = some (.ret (.bool true), h) := fun f h => timesC_c (m + 3) f h 5 0
  have hl : (byteCells s).length = s.length * 1 := by simp [byteCells]
  have hl' : s.length + 1 = (byteCells s).length + 1 := by simp [byteCells]
  have hv : AV.agg [.sl (nodesA (treeF mode user group s)) 3 false, .int .u32 2] = AV.agg [.sl ((nodeA nodeZ ++ [.int .u32 2, .int .u32 0, .int .u32 493, .int .u32 0, .int .u32 0, .int .i64 2, .int .u32 5, .int .u32 0, .int .u32 5, .int .u32 0, .int .u32 5, .int .u32 0, .sl0, .int .u8 0, .int .u8 0, .int .u8 0, .int .u8 0, .int .u8 0, .int .u8 0, .int .u8 0, .int .u8 0, .str []]) ++ (.sl [.str [102], .int .i64 2, .int .u64 3] 1 (tightA (some 1) 1) :: (([.int .i64 1, .int .u64 4] ++ [.int .u32 1, .int .u32 1, .int .u32 mode, .int .u32 user, .int .u32 group, .int .i64 1, .int .u32 0, .int .u32 0, .int .u32 0, .int .u32 0, .int .u32 0, .int .u32 0]) ++ (.sl (byteCells s) s.length (tightA none s.length) :: [.int .u8 0, .int .u8 0, .int .u8 0, .int .u8 0, .int .u8 0, .int .u8 0, .int .u8 0, .int .u8 0, .str [], .sl0, .int .i64 0, .int .u64 0])))) 3 (tightA none 3), .int .u32 2] := by
    unfold treeF nodeF
    rw [← byteCells_eq]
    rfl
  rw [hv]
  have hsv : ∀ bs : List AB, bs[5]? = some (.cells [.str [102], .int .i64 2, .int .u64 3] ⟨false, 3, false, true⟩) → bs[6]? = some (.cells (byteCells s) ⟨true, 1, true, true⟩) → sealVL (sealL 3) bs ((nodeA nodeZ ++ [.int .u32 2, .int .u32 0, .int .u32 493, .int .u32 0, .int .u32 0, .int .i64 2, .int .u32 5, .int .u32 0, .int .u32 5, .int .u32 0, .int .u32 5, .int .u32 0, .sl0, .int .u8 0, .int .u8 0, .int .u8 0, .int .u8 0, .int .u8 0, .int .u8 0, .int .u8 0, .int .u8 0, .str []]) ++ (.rsl 5 0 1 (some 1) 0 :: (([.int .i64 1, .int .u64 4] ++ [.int .u32 1, .int .u32 1, .int .u32 mode, .int .u32 user, .int .u32 group, .int .i64 1, .int .u32 0, .int .u32 0, .int .u32 0, .int .u32 0, .int .u32 0, .int .u32 0]) ++ (.rsl 6 0 s.length none (s.length + 1) :: [.int .u8 0, .int .u8 0, .int .u8 0, .int .u8 0, .int .u8 0, .int .u8 0, .int .u8 0, .int .u8 0, .str [], .sl0, .int .i64 0, .int .u64 0])))) = (((nodeA nodeZ ++ [.int .u32 2, .int .u32 0, .int .u32 493, .int .u32 0, .int .u32 0, .int .i64 2, .int .u32 5, .int .u32 0, .int .u32 5, .int .u32 0, .int .u32 5, .int .u32 0, .sl0, .int .u8 0, .int .u8 0, .int .u8 0, .int .u8 0, .int .u8 0, .int .u8 0, .int .u8 0, .int .u8 0, .str []]) ++ (.sl [.str [102], .int .i64 2, .int .u64 3] 1 (tightA (some 1) 1) :: (([.int .i64 1, .int .u64 4] ++ [.int .u32 1, .int .u32 1, .int .u32 mode, .int .u32 user, .int .u32 group, .int .i64 1, .int .u32 0, .int .u32 0, .int .u32 0, .int .u32 0, .int .u32 0, .int .u32 0]) ++ (.sl (byteCells s) s.length (tightA none s.length) :: [.int .u8 0, .int .u8 0, .int .u8 0, .int .u8 0, .int .u8 0, .int .u8 0, .int .u8 0, .int .u8 0, .str [], .sl0, .int .i64 0, .int .u64 0])))), (bs.set 5 (.cells [.str [102], .int .i64 2, .int .u64 3] ⟨true, 3, false, false⟩)).set 6 (.cells (byteCells s) ⟨true, 1, true, false⟩)) := fun bs h5 h6 =>
    sealVL_two rfl rfl rfl (sealV_row2 h5 rfl rfl rfl rfl rfl (by decide)) (sealV_row (b := 6) (c := byteCells s) (i := ⟨true, 1, true, true⟩) (by rw [List.getElem?_set_ne (show 5 ≠ 6 by decide)]; exact h6) hl' rfl rfl hl (by decide))
  refine call_cleanE (fn := Try.f12) rfl Try.func12 rfl rfl rfl rfl rfl (Nat.le_of_ble_eq_true rfl) ?_
  intro End hE
  conv => whnf
  (refine call_raw (fn := Try.f35) rfl Try.func35 rfl rfl (Nat.le_of_ble_eq_true rfl) ?_)
  conv => whnf
  (refine ⟨_, _, cT _ _, ?_⟩)
  conv => whnf
  refine hE _ _ [.agg [.rsl 8 0 3 none 76, .int .u32 2]] _ _ (.inr rfl) ?_ (leaveA_of (seal_agg1 (seal_deep (c := ((nodeA nodeZ ++ [.int .u32 2, .int .u32 0, .int .u32 493, .int .u32 0, .int .u32 0, .int .i64 2, .int .u32 5, .int .u32 0, .int .u32 5, .int .u32 0, .int .u32 5, .int .u32 0, .sl0, .int .u8 0, .int .u8 0, .int .u8 0, .int .u8 0, .int .u8 0, .int .u8 0, .int .u8 0, .int .u8 0, .str []]) ++ (.rsl 5 0 1 (some 1) 0 :: (([.int .i64 1, .int .u64 4] ++ [.int .u32 1, .int .u32 1, .int .u32 mode, .int .u32 user, .int .u32 group, .int .i64 1, .int .u32 0, .int .u32 0, .int .u32 0, .int .u32 0, .int .u32 0, .int .u32 0]) ++ (.rsl 6 0 s.length none (s.length + 1) :: [.int .u8 0, .int .u8 0, .int .u8 0, .int .u8 0, .int .u8 0, .int .u8 0, .int .u8 0, .int .u8 0, .str [], .sl0, .int .i64 0, .int .u64 0]))))) (i := ⟨false, 25, true, true⟩) (j := ⟨false, 25, true, true⟩) (d := ((nodeA nodeZ ++ [.int .u32 2, .int .u32 0, .int .u32 493, .int .u32 0, .int .u32 0, .int .i64 2, .int .u32 5, .int .u32 0, .int .u32 5, .int .u32 0, .int .u32 5, .int .u32 0, .sl0, .int .u8 0, .int .u8 0, .int .u8 0, .int .u8 0, .int .u8 0, .int .u8 0, .int .u8 0, .int .u8 0, .str []]) ++ (.rsl 5 0 1 (some 1) 0 :: (([.int .i64 1, .int .u64 4] ++ [.int .u32 1, .int .u32 1, .int .u32 mode, .int .u32 user, .int .u32 group, .int .i64 1, .int .u32 0, .int .u32 0, .int .u32 0, .int .u32 0, .int .u32 0, .int .u32 0]) ++ (.rsl 6 0 s.length none (s.length + 1) :: [.int .u8 0, .int .u8 0, .int .u8 0, .int .u8 0, .int .u8 0, .int .u8 0, .int .u8 0, .int .u8 0, .str [], .sl0, .int .i64 0, .int .u64 0]))))) ?_ ?_ rfl rfl (hsv _ ?_ ?_) ?_ ?_ ?_ ?_ rfl rfl rfl ?_ (by decide))) ?_ ?_) ?_
  · skip
    kernel_rfl
  · skip
    kernel_rfl
  · skip
    kernel_rfl
  · skip
    kernel_rfl
  · skip
    kernel_rfl
  · skip
    kernel_rfl
  · skip
    kernel_rfl
  · skip
    kernel_rfl
  · skip
    kernel_rfl
  · skip
    kernel_rfl
  · skip
    kernel_rfl
  · skip
    kernel_rfl
  · exact rfl
end Go.Proofs.Ytnkeijebkpjdgaa.Ab
