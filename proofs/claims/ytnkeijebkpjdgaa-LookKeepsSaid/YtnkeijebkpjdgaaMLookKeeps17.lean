import Derived.Test.YtnkeijebkpjdgaaMLookKeeps16
import Derived.Test.YtnkeijebkpjdgaaMLookKeeps15
set_option linter.unusedVariables false
set_option linter.unusedSimpArgs false
/- Over the engine: names, paths; what nodes of a kind have. -/
namespace Go.Proofs.Ytnkeijebkpjdgaa.Ab
open Go Go.RowKit

set_option maxRecDepth 100000
def ruleA (row : AV) (most : Int) : AV := .agg [.fn 79 [] [.vref [row] 0], .int .u32 22, .fn 80 [] [.vref [.int .i64 most] 0], .int .u32 63]
theorem longer_c (m : Nat) (from_ : FuncId) (h : H) (s : List UInt8) (most : Int) : evCall TE (m + 1) from_ (.fn 80 [] [.vref [.int .i64 most] 0]) [.str s] h = some (.ret (.bool (decide ((s.length : Int) > most))), h) := by
  refine call_clean (fn := Try.f80) rfl Try.func80 rfl rfl rfl rfl rfl (Nat.le_of_ble_eq_true rfl) ?_
  conv => whnf
def nameSt (s : List UInt8) : Int := if (has s 0 || (has s 47 || s == [])) = true then 22 else if decide ((s.length : Int) > 255) = true then 63 else 0
def pathSt (s : List UInt8) : Int := if (has s 0 || s == []) = true then 22 else if decide ((s.length : Int) > 1024) = true then 63 else 0
theorem is_name (m : Nat) (from_ : FuncId) (h : H) (s : List UInt8) (hl : s.length ≤ 140737488351232) : evCall TE (m + 2) from_ (.fn 65 [] []) [.str s, ruleA (.sl [.int .u8 0, .int .u8 47] 2 true) 255] h = some (.ret (.int .u32 (nameSt s)), h) := by
  have c1 : ∀ (f : FuncId) (h : H), (evAll TE (m + 1)).1 f (.fn 79 [] [.vref [.sl [.int .u8 0, .int .u8 47] 2 true] 0]) [.str s] h = some (.ret (.bool (has s 0 || (has s 47 || s == []))), h) := fun f h => breaks_two m f h s true hl
  have c2 : ∀ (f : FuncId) (h : H), (evAll TE (m + 1)).1 f (.fn 80 [] [.vref [.int .i64 255] 0]) [.str s] h = some (.ret (.bool (decide ((s.length : Int) > 255))), h) := fun f h => longer_c m f h s 255
  obtain ⟨r, hr⟩ : ∃ r, r = nameSt s := ⟨_, rfl⟩
  rw [← hr]
  unfold nameSt at hr
  generalize (has s 0 || (has s 47 || s == [])) = q1 at c1 hr
  generalize decide ((s.length : Int) > 255) = q2 at c2 hr
  unfold ruleA
  refine call_clean (fn := Try.f65) rfl Try.func65 rfl rfl rfl rfl rfl (Nat.le_of_ble_eq_true rfl) ?_
  conv => whnf
  (with_reducible refine ⟨(3 : Nat), ?_, ?_⟩; · exact Nat.le_of_ble_eq_true rfl)
  conv => whnf
  with_reducible refine ⟨_, _, c1 _ _, ?_⟩
  conv => whnf
  cases q1
  · conv => whnf
    with_reducible refine ⟨_, _, c2 _ _, ?_⟩
    conv => whnf
    cases q2
    · conv => whnf
      (rw [hr]; simp_all; done)
    · conv => whnf
      (rw [hr]; simp_all; done)
  · conv => whnf
    (rw [hr]; simp_all; done)
theorem without_name (m : Nat) (from_ : FuncId) : evCall TE (m + 2) from_ (.fn 66 [] []) [.int .i64 255, .rsl 0 0 2 (some 2) 0] ⟨[.cells [.int .u8 0, .int .u8 47] ⟨false, 1, false, true⟩], []⟩ = some (.ret (ruleA (.sl [.int .u8 0, .int .u8 47] 2 true) 255), ⟨[.cells [.int .u8 0, .int .u8 47] ⟨true, 1, false, false⟩], []⟩) := by
  skip
  kernel_rfl
theorem is_path (m : Nat) (from_ : FuncId) (h : H) (s : List UInt8) (hl : s.length ≤ 140737488351232) : evCall TE (m + 2) from_ (.fn 65 [] []) [.str s, ruleA (.sl [.int .u8 0] 1 true) 1024] h = some (.ret (.int .u32 (pathSt s)), h) := by
  have c1 : ∀ (f : FuncId) (h : H), (evAll TE (m + 1)).1 f (.fn 79 [] [.vref [.sl [.int .u8 0] 1 true] 0]) [.str s] h = some (.ret (.bool (has s 0 || s == [])), h) := fun f h => breaks_one m f h s true hl
  have c2 : ∀ (f : FuncId) (h : H), (evAll TE (m + 1)).1 f (.fn 80 [] [.vref [.int .i64 1024] 0]) [.str s] h = some (.ret (.bool (decide ((s.length : Int) > 1024))), h) := fun f h => longer_c m f h s 1024
  obtain ⟨r, hr⟩ : ∃ r, r = pathSt s := ⟨_, rfl⟩
  rw [← hr]
  unfold pathSt at hr
  generalize (has s 0 || s == []) = q1 at c1 hr
  generalize decide ((s.length : Int) > 1024) = q2 at c2 hr
  unfold ruleA
  refine call_clean (fn := Try.f65) rfl Try.func65 rfl rfl rfl rfl rfl (Nat.le_of_ble_eq_true rfl) ?_
  conv => whnf
  (with_reducible refine ⟨(3 : Nat), ?_, ?_⟩; · exact Nat.le_of_ble_eq_true rfl)
  conv => whnf
  with_reducible refine ⟨_, _, c1 _ _, ?_⟩
  conv => whnf
  cases q1
  · conv => whnf
    with_reducible refine ⟨_, _, c2 _ _, ?_⟩
    conv => whnf
    cases q2
    · conv => whnf
      (rw [hr]; simp_all; done)
    · conv => whnf
      (rw [hr]; simp_all; done)
  · conv => whnf
    (rw [hr]; simp_all; done)
theorem without_path (m : Nat) (from_ : FuncId) : evCall TE (m + 2) from_ (.fn 66 [] []) [.int .i64 1024, .rsl 0 0 1 (some 1) 0] ⟨[.cells [.int .u8 0] ⟨false, 1, false, true⟩], []⟩ = some (.ret (ruleA (.sl [.int .u8 0] 1 true) 1024), ⟨[.cells [.int .u8 0] ⟨true, 1, false, false⟩], []⟩) := by
  skip
  kernel_rfl
theorem name_c (m : Nat) (from_ : FuncId) (h : H) (s : List UInt8) (hl : s.length ≤ 140737488351232) : evCall TE (m + 4) from_ (.fn 45 [] []) [.str s] h = some (.ret (.int .u32 (nameSt s)), h) := by
  have c1 : ∀ (f : FuncId), (evAll TE (m + 3)).1 f (.fn 66 [] []) [.int .i64 255, .rsl 0 0 2 (some 2) 0] ⟨[.cells [.int .u8 0, .int .u8 47] ⟨false, 1, false, true⟩], []⟩ = some (.ret (ruleA (.sl [.int .u8 0, .int .u8 47] 2 true) 255), ⟨[.cells [.int .u8 0, .int .u8 47] ⟨true, 1, false, false⟩], []⟩) := fun f => without_name (m + 1) f
  have c2 : ∀ (f : FuncId) (h : H), (evAll TE (m + 3)).1 f (.fn 65 [] []) [.str s, ruleA (.sl [.int .u8 0, .int .u8 47] 2 true) 255] h = some (.ret (.int .u32 (nameSt s)), h) := fun f h => is_name (m + 1) f h s hl
  generalize nameSt s = r at c2 ⊢
  unfold ruleA at c1 c2
  refine call_clean (fn := Try.f45) rfl Try.func45 rfl rfl rfl rfl rfl (Nat.le_of_ble_eq_true rfl) ?_
  conv => whnf
  (refine ⟨_, _, c1 _, ?_⟩)
  conv => whnf
  with_reducible refine ⟨_, _, c2 _ _, ?_⟩
  conv => whnf
theorem path_c (m : Nat) (from_ : FuncId) (h : H) (s : List UInt8) (hl : s.length ≤ 140737488351232) : evCall TE (m + 4) from_ (.fn 43 [] []) [.str s] h = some (.ret (.int .u32 (pathSt s)), h) := by
  have c1 : ∀ (f : FuncId), (evAll TE (m + 3)).1 f (.fn 66 [] []) [.int .i64 1024, .rsl 0 0 1 (some 1) 0] ⟨[.cells [.int .u8 0] ⟨false, 1, false, true⟩], []⟩ = some (.ret (ruleA (.sl [.int .u8 0] 1 true) 1024), ⟨[.cells [.int .u8 0] ⟨true, 1, false, false⟩], []⟩) := fun f => without_path (m + 1) f
  have c2 : ∀ (f : FuncId) (h : H), (evAll TE (m + 3)).1 f (.fn 65 [] []) [.str s, ruleA (.sl [.int .u8 0] 1 true) 1024] h = some (.ret (.int .u32 (pathSt s)), h) := fun f h => is_path (m + 1) f h s hl
  generalize pathSt s = r at c2 ⊢
  unfold ruleA at c1 c2
  refine call_clean (fn := Try.f43) rfl Try.func43 rfl rfl rfl rfl rfl (Nat.le_of_ble_eq_true rfl) ?_
  conv => whnf
  (refine ⟨_, _, c1 _, ?_⟩)
  conv => whnf
  with_reducible refine ⟨_, _, c2 _ _, ?_⟩
  conv => whnf
theorem is_c (m : Nat) (from_ : FuncId) (h : H) (ns : List NodeS) (t : Bool) (gen n k : Int) : evCall TE (m + 2) from_ (.fn 20 [] []) [.agg [.sl (nodesA ns) ns.length t, .int .u32 gen], .int .i64 n, .int .u32 k] h = some (.ret (.bool (thereS ns n && kindS ns n == k)), h) := by
  have c1 : ∀ (f : FuncId) (h : H), (evAll TE (m + 1)).1 f (.fn 21 [] []) [.agg [.sl (nodesA ns) ns.length t, .int .u32 gen], .int .i64 n] h = some (.ret (.bool (thereS ns n)), h) := fun f h => there_c m f h _ ns (.inr ⟨t, rfl⟩) gen n
  cases hn : thereS ns n with
  | false =>
    rw [hn] at c1
    refine call_clean (fn := Try.f20) rfl Try.func20 rfl rfl rfl rfl rfl (Nat.le_of_ble_eq_true rfl) ?_
    conv => whnf
    with_reducible refine ⟨_, _, c1 _ _, ?_⟩
    conv => whnf
    rfl
  | true =>
    rw [hn] at c1
    have hn2 := hn
    unfold thereS at hn2
    rw [Bool.and_eq_true, Bool.and_eq_true, decide_eq_true_eq, decide_eq_true_eq] at hn2
    have hn0 : 0 ≤ n := by omega
    have hn1 := hn2.2.1
    obtain ⟨x, hx⟩ : ∃ x, ns[n.toNat]? = some x := ⟨_, List.getElem?_eq_getElem (by omega)⟩
    have hk : kindS ns n = x.kind := by unfold kindS; rw [hx]
    rw [hk]
    refine call_clean (fn := Try.f20) rfl Try.func20 rfl rfl rfl rfl rfl (Nat.le_of_ble_eq_true rfl) ?_
    conv => whnf
    with_reducible refine ⟨_, _, c1 _ _, ?_⟩
    conv => whnf
    (refine runK_ret (ev_indexSl (sz := 25) rfl rfl rfl rfl hn0 hn1) ?_)
    conv => whnf
    (refine runK_ret (ev_loadV (z := 1) rfl rfl rfl ((nodesA_cell hx 0 (by decide)).trans rfl)) ?_)
    conv => whnf
    rfl
def zeroVerf (x : NodeS) : Bool := x.verf 0 == 0 && (x.verf 1 == 0 && (x.verf 2 == 0 && (x.verf 3 == 0 && (x.verf 4 == 0 && (x.verf 5 == 0 && (x.verf 6 == 0 && (x.verf 7 == 0 && true)))))))
def fileO (x : NodeS) : Bool := ((x.bytes.length : Int) == 0) && zeroVerf x
def listO (x : NodeS) : Bool := ((x.ents.length : Int) == 0) && (x.parent == 0 && x.next == 0)
def onlyS (x : NodeS) : Bool :=
  if (x.kind == 0) = true then fileO x && (x.target == [] && (listO x && ((bor .u32 (bor .u32 (bor .u32 x.gen x.mode) x.user) x.group == 0) && (x.links == 0 && ((x.rs == 0 && (x.rn == 0 && true)) && ((x.ws == 0 && (x.wn == 0 && true)) && (x.ts == 0 && (x.tn == 0 && true))))))))
  else if (x.kind == 1) = true then x.target == [] && (listO x && decide ((x.bytes.length : Int) ≤ 65536))
  else if (x.kind == 5) = true then fileO x && (listO x && pathSt x.target == 0)
  else x.kind == 2 && (fileO x && x.target == [])
set_option maxHeartbeats 8000000 in
theorem only_c (m : Nat) (from_ : FuncId) (h : H) (x : NodeS) (hx : x.ok) (hl : x.target.length ≤ 140737488351232) : evCall TE (m + 5) from_ (.fn 24 [] []) [.agg (nodeA x)] h = some (.ret (.bool (onlyS x)), h) := by
  have c1 : ∀ (f : FuncId) (h : H), (evAll TE (m + 4)).1 f (.fn 43 [] []) [.str x.target] h = some (.ret (.int .u32 (pathSt x.target)), h) := fun f h => path_c m f h x.target hl
  obtain ⟨r, hr⟩ : ∃ r, r = onlyS x := ⟨_, rfl⟩
  rw [← hr]
  unfold onlyS at hr
  obtain ⟨qp, hqp⟩ : ∃ q, q = pathSt x.target := ⟨_, rfl⟩
  rw [← hqp] at c1 hr
  clear hqp hl
  unfold fileO listO zeroVerf bor at hr
  obtain ⟨kd, ge, mo, us, ng, li, xrs, xrn, xws, xwn, ts, tn, da, by_, vf, ta, ls, es, pa, nx⟩ := x
  simp only [NodeS.ok, rowOk, entsOk] at hx
  obtain ⟨hd, hl⟩ := hx
  dsimp only at c1 hr
  rcases hd with ⟨rfl, rfl⟩ | ⟨dt, rfl⟩ <;> rcases hl with ⟨rfl, rfl⟩ | ⟨lt, rfl⟩
  all_goals refine call_clean (fn := Try.f24) rfl Try.func24 rfl rfl rfl rfl rfl (Nat.le_of_ble_eq_true rfl) ?_
  · conv => whnf
    cases z0 : pa == Int.ofNat 0
    · conv => whnf
      cases z1 : kd == Int.ofNat 0
      · conv => whnf
        cases z2 : kd == Int.ofNat 1
        · conv => whnf
          cases z3 : kd == Int.ofNat 5
          · conv => whnf
            cases z4 : kd == Int.ofNat 2
            · conv => whnf
              (rw [hr]; simp_all; done)
            · conv => whnf
              cases z5 : vf 0 == Int.ofNat 0 && (vf 1 == Int.ofNat 0 && (vf 2 == Int.ofNat 0 && (vf 3 == Int.ofNat 0 && (vf 4 == Int.ofNat 0 && (vf 5 == Int.ofNat 0 && (vf 6 == Int.ofNat 0 && (vf 7 == Int.ofNat 0 && true)))))))
              · conv => whnf
                (rw [hr]; simp_all; done)
              · conv => whnf
                (rw [hr]; simp_all; done)
          · conv => whnf
            cases z6 : vf 0 == Int.ofNat 0 && (vf 1 == Int.ofNat 0 && (vf 2 == Int.ofNat 0 && (vf 3 == Int.ofNat 0 && (vf 4 == Int.ofNat 0 && (vf 5 == Int.ofNat 0 && (vf 6 == Int.ofNat 0 && (vf 7 == Int.ofNat 0 && true)))))))
            · conv => whnf
              (rw [hr]; simp_all; done)
            · conv => whnf
              (rw [hr]; simp_all; done)
        · conv => whnf
          cases z7 : ta == []
          · conv => whnf
            (rw [hr]; simp_all; done)
          · conv => whnf
            (rw [hr]; simp_all; done)
      · conv => whnf
        cases z8 : vf 0 == Int.ofNat 0 && (vf 1 == Int.ofNat 0 && (vf 2 == Int.ofNat 0 && (vf 3 == Int.ofNat 0 && (vf 4 == Int.ofNat 0 && (vf 5 == Int.ofNat 0 && (vf 6 == Int.ofNat 0 && (vf 7 == Int.ofNat 0 && true)))))))
        · conv => whnf
          (rw [hr]; simp_all; done)
        · conv => whnf
          cases z9 : ta == []
          · conv => whnf
            (rw [hr]; simp_all; done)
          · conv => whnf
            (rw [hr]; simp_all; done)
    · conv => whnf
      cases z10 : kd == Int.ofNat 0
      · conv => whnf
        cases z11 : kd == Int.ofNat 1
        · conv => whnf
          cases z12 : kd == Int.ofNat 5
          · conv => whnf
            cases z13 : kd == Int.ofNat 2
            · conv => whnf
              (rw [hr]; simp_all; done)
            · conv => whnf
              cases z14 : vf 0 == Int.ofNat 0 && (vf 1 == Int.ofNat 0 && (vf 2 == Int.ofNat 0 && (vf 3 == Int.ofNat 0 && (vf 4 == Int.ofNat 0 && (vf 5 == Int.ofNat 0 && (vf 6 == Int.ofNat 0 && (vf 7 == Int.ofNat 0 && true)))))))
              · conv => whnf
                (rw [hr]; simp_all; done)
              · conv => whnf
                (rw [hr]; simp_all; done)
          · conv => whnf
            cases z15 : vf 0 == Int.ofNat 0 && (vf 1 == Int.ofNat 0 && (vf 2 == Int.ofNat 0 && (vf 3 == Int.ofNat 0 && (vf 4 == Int.ofNat 0 && (vf 5 == Int.ofNat 0 && (vf 6 == Int.ofNat 0 && (vf 7 == Int.ofNat 0 && true)))))))
            · conv => whnf
              (rw [hr]; simp_all; done)
            · conv => whnf
              cases z16 : nx == Int.ofNat 0
              · conv => whnf
                (rw [hr]; simp_all; done)
              · conv => whnf
                with_reducible refine ⟨_, _, c1 _ _, ?_⟩
                conv => whnf
                (rw [hr]; simp_all; done)
        · conv => whnf
          cases z17 : ta == []
          · conv => whnf
            (rw [hr]; simp_all; done)
          · conv => whnf
            cases z18 : nx == Int.ofNat 0
            · conv => whnf
              (rw [hr]; simp_all; done)
            · conv => whnf
              (rw [hr]; simp_all; done)
      · conv => whnf
        cases z19 : vf 0 == Int.ofNat 0 && (vf 1 == Int.ofNat 0 && (vf 2 == Int.ofNat 0 && (vf 3 == Int.ofNat 0 && (vf 4 == Int.ofNat 0 && (vf 5 == Int.ofNat 0 && (vf 6 == Int.ofNat 0 && (vf 7 == Int.ofNat 0 && true)))))))
        · conv => whnf
          (rw [hr]; simp_all; done)
        · conv => whnf
          cases z20 : ta == []
          · conv => whnf
            (rw [hr]; simp_all; done)
          · conv => whnf
            cases z21 : nx == Int.ofNat 0
            · conv => whnf
              (rw [hr]; simp_all; done)
            · conv => whnf
              cases z22 : IntKind.u32.wrap ↑(BitVec.ofInt IntKind.u32.bits (IntKind.u32.wrap ↑(BitVec.ofInt IntKind.u32.bits (IntKind.u32.wrap ↑(BitVec.ofInt IntKind.u32.bits ge ||| BitVec.ofInt IntKind.u32.bits mo).toNat) ||| BitVec.ofInt IntKind.u32.bits us).toNat) ||| BitVec.ofInt IntKind.u32.bits ng).toNat == Int.ofNat 0
              · conv => whnf
                (rw [hr]; simp_all; done)
              · conv => whnf
                cases z23 : li == Int.ofNat 0
                · conv => whnf
                  (rw [hr]; simp_all; done)
                · conv => whnf
                  cases z24 : xrs == Int.ofNat 0 && (xrn == Int.ofNat 0 && true)
                  · conv => whnf
                    (rw [hr]; simp_all; done)
                  · conv => whnf
                    cases z25 : xws == Int.ofNat 0 && (xwn == Int.ofNat 0 && true)
                    · conv => whnf
                      (rw [hr]; simp_all; done)
                    · conv => whnf
                      (rw [hr]; simp_all; done)
  · conv => whnf
    cases z0 : ↑es.length == Int.ofNat 0
    · conv => whnf
      cases z1 : kd == Int.ofNat 0
      · conv => whnf
        cases z2 : kd == Int.ofNat 1
        · conv => whnf
          cases z3 : kd == Int.ofNat 5
          · conv => whnf
            cases z4 : kd == Int.ofNat 2
            · conv => whnf
              (rw [hr]; simp_all; done)
            · conv => whnf
              cases z5 : vf 0 == Int.ofNat 0 && (vf 1 == Int.ofNat 0 && (vf 2 == Int.ofNat 0 && (vf 3 == Int.ofNat 0 && (vf 4 == Int.ofNat 0 && (vf 5 == Int.ofNat 0 && (vf 6 == Int.ofNat 0 && (vf 7 == Int.ofNat 0 && true)))))))
              · conv => whnf
                (rw [hr]; simp_all; done)
              · conv => whnf
                (rw [hr]; simp_all; done)
          · conv => whnf
            cases z6 : vf 0 == Int.ofNat 0 && (vf 1 == Int.ofNat 0 && (vf 2 == Int.ofNat 0 && (vf 3 == Int.ofNat 0 && (vf 4 == Int.ofNat 0 && (vf 5 == Int.ofNat 0 && (vf 6 == Int.ofNat 0 && (vf 7 == Int.ofNat 0 && true)))))))
            · conv => whnf
              (rw [hr]; simp_all; done)
            · conv => whnf
              (rw [hr]; simp_all; done)
        · conv => whnf
          cases z7 : ta == []
          · conv => whnf
            (rw [hr]; simp_all; done)
          · conv => whnf
            (rw [hr]; simp_all; done)
      · conv => whnf
        cases z8 : vf 0 == Int.ofNat 0 && (vf 1 == Int.ofNat 0 && (vf 2 == Int.ofNat 0 && (vf 3 == Int.ofNat 0 && (vf 4 == Int.ofNat 0 && (vf 5 == Int.ofNat 0 && (vf 6 == Int.ofNat 0 && (vf 7 == Int.ofNat 0 && true)))))))
        · conv => whnf
          (rw [hr]; simp_all; done)
        · conv => whnf
          cases z9 : ta == []
          · conv => whnf
            (rw [hr]; simp_all; done)
          · conv => whnf
            (rw [hr]; simp_all; done)
    · conv => whnf
      cases z10 : pa == Int.ofNat 0
      · conv => whnf
        cases z11 : kd == Int.ofNat 0
        · conv => whnf
          cases z12 : kd == Int.ofNat 1
          · conv => whnf
            cases z13 : kd == Int.ofNat 5
            · conv => whnf
              cases z14 : kd == Int.ofNat 2
              · conv => whnf
                (rw [hr]; simp_all; done)
              · conv => whnf
                cases z15 : vf 0 == Int.ofNat 0 && (vf 1 == Int.ofNat 0 && (vf 2 == Int.ofNat 0 && (vf 3 == Int.ofNat 0 && (vf 4 == Int.ofNat 0 && (vf 5 == Int.ofNat 0 && (vf 6 == Int.ofNat 0 && (vf 7 == Int.ofNat 0 && true)))))))
                · conv => whnf
                  (rw [hr]; simp_all; done)
                · conv => whnf
                  (rw [hr]; simp_all; done)
            · conv => whnf
              cases z16 : vf 0 == Int.ofNat 0 && (vf 1 == Int.ofNat 0 && (vf 2 == Int.ofNat 0 && (vf 3 == Int.ofNat 0 && (vf 4 == Int.ofNat 0 && (vf 5 == Int.ofNat 0 && (vf 6 == Int.ofNat 0 && (vf 7 == Int.ofNat 0 && true)))))))
              · conv => whnf
                (rw [hr]; simp_all; done)
              · conv => whnf
                (rw [hr]; simp_all; done)
          · conv => whnf
            cases z17 : ta == []
            · conv => whnf
              (rw [hr]; simp_all; done)
            · conv => whnf
              (rw [hr]; simp_all; done)
        · conv => whnf
          cases z18 : vf 0 == Int.ofNat 0 && (vf 1 == Int.ofNat 0 && (vf 2 == Int.ofNat 0 && (vf 3 == Int.ofNat 0 && (vf 4 == Int.ofNat 0 && (vf 5 == Int.ofNat 0 && (vf 6 == Int.ofNat 0 && (vf 7 == Int.ofNat 0 && true)))))))
          · conv => whnf
            (rw [hr]; simp_all; done)
          · conv => whnf
            cases z19 : ta == []
            · conv => whnf
              (rw [hr]; simp_all; done)
            · conv => whnf
              (rw [hr]; simp_all; done)
      · conv => whnf
        cases z20 : kd == Int.ofNat 0
        · conv => whnf
          cases z21 : kd == Int.ofNat 1
          · conv => whnf
            cases z22 : kd == Int.ofNat 5
            · conv => whnf
              cases z23 : kd == Int.ofNat 2
              · conv => whnf
                (rw [hr]; simp_all; done)
              · conv => whnf
                cases z24 : vf 0 == Int.ofNat 0 && (vf 1 == Int.ofNat 0 && (vf 2 == Int.ofNat 0 && (vf 3 == Int.ofNat 0 && (vf 4 == Int.ofNat 0 && (vf 5 == Int.ofNat 0 && (vf 6 == Int.ofNat 0 && (vf 7 == Int.ofNat 0 && true)))))))
                · conv => whnf
                  (rw [hr]; simp_all; done)
                · conv => whnf
                  (rw [hr]; simp_all; done)
            · conv => whnf
              cases z25 : vf 0 == Int.ofNat 0 && (vf 1 == Int.ofNat 0 && (vf 2 == Int.ofNat 0 && (vf 3 == Int.ofNat 0 && (vf 4 == Int.ofNat 0 && (vf 5 == Int.ofNat 0 && (vf 6 == Int.ofNat 0 && (vf 7 == Int.ofNat 0 && true)))))))
              · conv => whnf
                (rw [hr]; simp_all; done)
              · conv => whnf
                cases z26 : nx == Int.ofNat 0
                · conv => whnf
                  (rw [hr]; simp_all; done)
                · conv => whnf
                  with_reducible refine ⟨_, _, c1 _ _, ?_⟩
                  conv => whnf
                  (rw [hr]; simp_all; done)
          · conv => whnf
            cases z27 : ta == []
            · conv => whnf
              (rw [hr]; simp_all; done)
            · conv => whnf
              cases z28 : nx == Int.ofNat 0
              · conv => whnf
                (rw [hr]; simp_all; done)
              · conv => whnf
                (rw [hr]; simp_all; done)
        · conv => whnf
          cases z29 : vf 0 == Int.ofNat 0 && (vf 1 == Int.ofNat 0 && (vf 2 == Int.ofNat 0 && (vf 3 == Int.ofNat 0 && (vf 4 == Int.ofNat 0 && (vf 5 == Int.ofNat 0 && (vf 6 == Int.ofNat 0 && (vf 7 == Int.ofNat 0 && true)))))))
          · conv => whnf
            (rw [hr]; simp_all; done)
          · conv => whnf
            cases z30 : ta == []
            · conv => whnf
              (rw [hr]; simp_all; done)
            · conv => whnf
              cases z31 : nx == Int.ofNat 0
              · conv => whnf
                (rw [hr]; simp_all; done)
              · conv => whnf
                cases z32 : IntKind.u32.wrap ↑(BitVec.ofInt IntKind.u32.bits (IntKind.u32.wrap ↑(BitVec.ofInt IntKind.u32.bits (IntKind.u32.wrap ↑(BitVec.ofInt IntKind.u32.bits ge ||| BitVec.ofInt IntKind.u32.bits mo).toNat) ||| BitVec.ofInt IntKind.u32.bits us).toNat) ||| BitVec.ofInt IntKind.u32.bits ng).toNat == Int.ofNat 0
                · conv => whnf
                  (rw [hr]; simp_all; done)
                · conv => whnf
                  cases z33 : li == Int.ofNat 0
                  · conv => whnf
                    (rw [hr]; simp_all; done)
                  · conv => whnf
                    cases z34 : xrs == Int.ofNat 0 && (xrn == Int.ofNat 0 && true)
                    · conv => whnf
                      (rw [hr]; simp_all; done)
                    · conv => whnf
                      cases z35 : xws == Int.ofNat 0 && (xwn == Int.ofNat 0 && true)
                      · conv => whnf
                        (rw [hr]; simp_all; done)
                      · conv => whnf
                        (rw [hr]; simp_all; done)
  · conv => whnf
    cases z0 : ↑by_.length == Int.ofNat 0
    · conv => whnf
      cases z1 : pa == Int.ofNat 0
      · conv => whnf
        cases z2 : kd == Int.ofNat 0
        · conv => whnf
          cases z3 : kd == Int.ofNat 1
          · conv => whnf
            cases z4 : kd == Int.ofNat 5
            · conv => whnf
              cases z5 : kd == Int.ofNat 2
              · conv => whnf
                (rw [hr]; simp_all; done)
              · conv => whnf
                (rw [hr]; simp_all; done)
            · conv => whnf
              (rw [hr]; simp_all; done)
          · conv => whnf
            cases z6 : ta == []
            · conv => whnf
              (rw [hr]; simp_all; done)
            · conv => whnf
              (rw [hr]; simp_all; done)
        · conv => whnf
          (rw [hr]; simp_all; done)
      · conv => whnf
        cases z7 : kd == Int.ofNat 0
        · conv => whnf
          cases z8 : kd == Int.ofNat 1
          · conv => whnf
            cases z9 : kd == Int.ofNat 5
            · conv => whnf
              cases z10 : kd == Int.ofNat 2
              · conv => whnf
                (rw [hr]; simp_all; done)
              · conv => whnf
                (rw [hr]; simp_all; done)
            · conv => whnf
              (rw [hr]; simp_all; done)
          · conv => whnf
            cases z11 : ta == []
            · conv => whnf
              (rw [hr]; simp_all; done)
            · conv => whnf
              cases z12 : nx == Int.ofNat 0
              · conv => whnf
                (rw [hr]; simp_all; done)
              · conv => whnf
                (rw [hr]; simp_all; done)
        · conv => whnf
          (rw [hr]; simp_all; done)
    · conv => whnf
      cases z13 : pa == Int.ofNat 0
      · conv => whnf
        cases z14 : kd == Int.ofNat 0
        · conv => whnf
          cases z15 : kd == Int.ofNat 1
          · conv => whnf
            cases z16 : kd == Int.ofNat 5
            · conv => whnf
              cases z17 : kd == Int.ofNat 2
              · conv => whnf
                (rw [hr]; simp_all; done)
              · conv => whnf
                cases z18 : vf 0 == Int.ofNat 0 && (vf 1 == Int.ofNat 0 && (vf 2 == Int.ofNat 0 && (vf 3 == Int.ofNat 0 && (vf 4 == Int.ofNat 0 && (vf 5 == Int.ofNat 0 && (vf 6 == Int.ofNat 0 && (vf 7 == Int.ofNat 0 && true)))))))
                · conv => whnf
                  (rw [hr]; simp_all; done)
                · conv => whnf
                  (rw [hr]; simp_all; done)
            · conv => whnf
              cases z19 : vf 0 == Int.ofNat 0 && (vf 1 == Int.ofNat 0 && (vf 2 == Int.ofNat 0 && (vf 3 == Int.ofNat 0 && (vf 4 == Int.ofNat 0 && (vf 5 == Int.ofNat 0 && (vf 6 == Int.ofNat 0 && (vf 7 == Int.ofNat 0 && true)))))))
              · conv => whnf
                (rw [hr]; simp_all; done)
              · conv => whnf
                (rw [hr]; simp_all; done)
          · conv => whnf
            cases z20 : ta == []
            · conv => whnf
              (rw [hr]; simp_all; done)
            · conv => whnf
              (rw [hr]; simp_all; done)
        · conv => whnf
          cases z21 : vf 0 == Int.ofNat 0 && (vf 1 == Int.ofNat 0 && (vf 2 == Int.ofNat 0 && (vf 3 == Int.ofNat 0 && (vf 4 == Int.ofNat 0 && (vf 5 == Int.ofNat 0 && (vf 6 == Int.ofNat 0 && (vf 7 == Int.ofNat 0 && true)))))))
          · conv => whnf
            (rw [hr]; simp_all; done)
          · conv => whnf
            cases z22 : ta == []
            · conv => whnf
              (rw [hr]; simp_all; done)
            · conv => whnf
              (rw [hr]; simp_all; done)
      · conv => whnf
        cases z23 : kd == Int.ofNat 0
        · conv => whnf
          cases z24 : kd == Int.ofNat 1
          · conv => whnf
            cases z25 : kd == Int.ofNat 5
            · conv => whnf
              cases z26 : kd == Int.ofNat 2
              · conv => whnf
                (rw [hr]; simp_all; done)
              · conv => whnf
                cases z27 : vf 0 == Int.ofNat 0 && (vf 1 == Int.ofNat 0 && (vf 2 == Int.ofNat 0 && (vf 3 == Int.ofNat 0 && (vf 4 == Int.ofNat 0 && (vf 5 == Int.ofNat 0 && (vf 6 == Int.ofNat 0 && (vf 7 == Int.ofNat 0 && true)))))))
                · conv => whnf
                  (rw [hr]; simp_all; done)
                · conv => whnf
                  (rw [hr]; simp_all; done)
            · conv => whnf
              cases z28 : vf 0 == Int.ofNat 0 && (vf 1 == Int.ofNat 0 && (vf 2 == Int.ofNat 0 && (vf 3 == Int.ofNat 0 && (vf 4 == Int.ofNat 0 && (vf 5 == Int.ofNat 0 && (vf 6 == Int.ofNat 0 && (vf 7 == Int.ofNat 0 && true)))))))
              · conv => whnf
                (rw [hr]; simp_all; done)
              · conv => whnf
                cases z29 : nx == Int.ofNat 0
                · conv => whnf
                  (rw [hr]; simp_all; done)
                · conv => whnf
                  with_reducible refine ⟨_, _, c1 _ _, ?_⟩
                  conv => whnf
                  (rw [hr]; simp_all; done)
          · conv => whnf
            cases z30 : ta == []
            · conv => whnf
              (rw [hr]; simp_all; done)
            · conv => whnf
              cases z31 : nx == Int.ofNat 0
              · conv => whnf
                (rw [hr]; simp_all; done)
              · conv => whnf
                (rw [hr]; simp_all; done)
        · conv => whnf
          cases z32 : vf 0 == Int.ofNat 0 && (vf 1 == Int.ofNat 0 && (vf 2 == Int.ofNat 0 && (vf 3 == Int.ofNat 0 && (vf 4 == Int.ofNat 0 && (vf 5 == Int.ofNat 0 && (vf 6 == Int.ofNat 0 && (vf 7 == Int.ofNat 0 && true)))))))
          · conv => whnf
            (rw [hr]; simp_all; done)
          · conv => whnf
            cases z33 : ta == []
            · conv => whnf
              (rw [hr]; simp_all; done)
            · conv => whnf
              cases z34 : nx == Int.ofNat 0
              · conv => whnf
                (rw [hr]; simp_all; done)
              · conv => whnf
                cases z35 : IntKind.u32.wrap ↑(BitVec.ofInt IntKind.u32.bits (IntKind.u32.wrap ↑(BitVec.ofInt IntKind.u32.bits (IntKind.u32.wrap ↑(BitVec.ofInt IntKind.u32.bits ge ||| BitVec.ofInt IntKind.u32.bits mo).toNat) ||| BitVec.ofInt IntKind.u32.bits us).toNat) ||| BitVec.ofInt IntKind.u32.bits ng).toNat == Int.ofNat 0
                · conv => whnf
                  (rw [hr]; simp_all; done)
                · conv => whnf
                  cases z36 : li == Int.ofNat 0
                  · conv => whnf
                    (rw [hr]; simp_all; done)
                  · conv => whnf
                    cases z37 : xrs == Int.ofNat 0 && (xrn == Int.ofNat 0 && true)
                    · conv => whnf
                      (rw [hr]; simp_all; done)
                    · conv => whnf
                      cases z38 : xws == Int.ofNat 0 && (xwn == Int.ofNat 0 && true)
                      · conv => whnf
                        (rw [hr]; simp_all; done)
                      · conv => whnf
                        (rw [hr]; simp_all; done)
  · conv => whnf
    cases z0 : ↑by_.length == Int.ofNat 0
    · conv => whnf
      cases z1 : ↑es.length == Int.ofNat 0
      · conv => whnf
        cases z2 : kd == Int.ofNat 0
        · conv => whnf
          cases z3 : kd == Int.ofNat 1
          · conv => whnf
            cases z4 : kd == Int.ofNat 5
            · conv => whnf
              cases z5 : kd == Int.ofNat 2
              · conv => whnf
                (rw [hr]; simp_all; done)
              · conv => whnf
                (rw [hr]; simp_all; done)
            · conv => whnf
              (rw [hr]; simp_all; done)
          · conv => whnf
            cases z6 : ta == []
            · conv => whnf
              (rw [hr]; simp_all; done)
            · conv => whnf
              (rw [hr]; simp_all; done)
        · conv => whnf
          (rw [hr]; simp_all; done)
      · conv => whnf
        cases z7 : pa == Int.ofNat 0
        · conv => whnf
          cases z8 : kd == Int.ofNat 0
          · conv => whnf
            cases z9 : kd == Int.ofNat 1
            · conv => whnf
              cases z10 : kd == Int.ofNat 5
              · conv => whnf
                cases z11 : kd == Int.ofNat 2
                · conv => whnf
                  (rw [hr]; simp_all; done)
                · conv => whnf
                  (rw [hr]; simp_all; done)
              · conv => whnf
                (rw [hr]; simp_all; done)
            · conv => whnf
              cases z12 : ta == []
              · conv => whnf
                (rw [hr]; simp_all; done)
              · conv => whnf
                (rw [hr]; simp_all; done)
          · conv => whnf
            (rw [hr]; simp_all; done)
        · conv => whnf
          cases z13 : kd == Int.ofNat 0
          · conv => whnf
            cases z14 : kd == Int.ofNat 1
            · conv => whnf
              cases z15 : kd == Int.ofNat 5
              · conv => whnf
                cases z16 : kd == Int.ofNat 2
                · conv => whnf
                  (rw [hr]; simp_all; done)
                · conv => whnf
                  (rw [hr]; simp_all; done)
              · conv => whnf
                (rw [hr]; simp_all; done)
            · conv => whnf
              cases z17 : ta == []
              · conv => whnf
                (rw [hr]; simp_all; done)
              · conv => whnf
                cases z18 : nx == Int.ofNat 0
                · conv => whnf
                  (rw [hr]; simp_all; done)
                · conv => whnf
                  (rw [hr]; simp_all; done)
          · conv => whnf
            (rw [hr]; simp_all; done)
    · conv => whnf
      cases z19 : ↑es.length == Int.ofNat 0
      · conv => whnf
        cases z20 : kd == Int.ofNat 0
        · conv => whnf
          cases z21 : kd == Int.ofNat 1
          · conv => whnf
            cases z22 : kd == Int.ofNat 5
            · conv => whnf
              cases z23 : kd == Int.ofNat 2
              · conv => whnf
                (rw [hr]; simp_all; done)
              · conv => whnf
                cases z24 : vf 0 == Int.ofNat 0 && (vf 1 == Int.ofNat 0 && (vf 2 == Int.ofNat 0 && (vf 3 == Int.ofNat 0 && (vf 4 == Int.ofNat 0 && (vf 5 == Int.ofNat 0 && (vf 6 == Int.ofNat 0 && (vf 7 == Int.ofNat 0 && true)))))))
                · conv => whnf
                  (rw [hr]; simp_all; done)
                · conv => whnf
                  (rw [hr]; simp_all; done)
            · conv => whnf
              cases z25 : vf 0 == Int.ofNat 0 && (vf 1 == Int.ofNat 0 && (vf 2 == Int.ofNat 0 && (vf 3 == Int.ofNat 0 && (vf 4 == Int.ofNat 0 && (vf 5 == Int.ofNat 0 && (vf 6 == Int.ofNat 0 && (vf 7 == Int.ofNat 0 && true)))))))
              · conv => whnf
                (rw [hr]; simp_all; done)
              · conv => whnf
                (rw [hr]; simp_all; done)
          · conv => whnf
            cases z26 : ta == []
            · conv => whnf
              (rw [hr]; simp_all; done)
            · conv => whnf
              (rw [hr]; simp_all; done)
        · conv => whnf
          cases z27 : vf 0 == Int.ofNat 0 && (vf 1 == Int.ofNat 0 && (vf 2 == Int.ofNat 0 && (vf 3 == Int.ofNat 0 && (vf 4 == Int.ofNat 0 && (vf 5 == Int.ofNat 0 && (vf 6 == Int.ofNat 0 && (vf 7 == Int.ofNat 0 && true)))))))
          · conv => whnf
            (rw [hr]; simp_all; done)
          · conv => whnf
            cases z28 : ta == []
            · conv => whnf
              (rw [hr]; simp_all; done)
            · conv => whnf
              (rw [hr]; simp_all; done)
      · conv => whnf
        cases z29 : pa == Int.ofNat 0
        · conv => whnf
          cases z30 : kd == Int.ofNat 0
          · conv => whnf
            cases z31 : kd == Int.ofNat 1
            · conv => whnf
              cases z32 : kd == Int.ofNat 5
              · conv => whnf
                cases z33 : kd == Int.ofNat 2
                · conv => whnf
                  (rw [hr]; simp_all; done)
                · conv => whnf
                  cases z34 : vf 0 == Int.ofNat 0 && (vf 1 == Int.ofNat 0 && (vf 2 == Int.ofNat 0 && (vf 3 == Int.ofNat 0 && (vf 4 == Int.ofNat 0 && (vf 5 == Int.ofNat 0 && (vf 6 == Int.ofNat 0 && (vf 7 == Int.ofNat 0 && true)))))))
                  · conv => whnf
                    (rw [hr]; simp_all; done)
                  · conv => whnf
                    (rw [hr]; simp_all; done)
              · conv => whnf
                cases z35 : vf 0 == Int.ofNat 0 && (vf 1 == Int.ofNat 0 && (vf 2 == Int.ofNat 0 && (vf 3 == Int.ofNat 0 && (vf 4 == Int.ofNat 0 && (vf 5 == Int.ofNat 0 && (vf 6 == Int.ofNat 0 && (vf 7 == Int.ofNat 0 && true)))))))
                · conv => whnf
                  (rw [hr]; simp_all; done)
                · conv => whnf
                  (rw [hr]; simp_all; done)
            · conv => whnf
              cases z36 : ta == []
              · conv => whnf
                (rw [hr]; simp_all; done)
              · conv => whnf
                (rw [hr]; simp_all; done)
          · conv => whnf
            cases z37 : vf 0 == Int.ofNat 0 && (vf 1 == Int.ofNat 0 && (vf 2 == Int.ofNat 0 && (vf 3 == Int.ofNat 0 && (vf 4 == Int.ofNat 0 && (vf 5 == Int.ofNat 0 && (vf 6 == Int.ofNat 0 && (vf 7 == Int.ofNat 0 && true)))))))
            · conv => whnf
              (rw [hr]; simp_all; done)
            · conv => whnf
              cases z38 : ta == []
              · conv => whnf
                (rw [hr]; simp_all; done)
              · conv => whnf
                (rw [hr]; simp_all; done)
        · conv => whnf
          cases z39 : kd == Int.ofNat 0
          · conv => whnf
            cases z40 : kd == Int.ofNat 1
            · conv => whnf
              cases z41 : kd == Int.ofNat 5
              · conv => whnf
                cases z42 : kd == Int.ofNat 2
                · conv => whnf
                  (rw [hr]; simp_all; done)
                · conv => whnf
                  cases z43 : vf 0 == Int.ofNat 0 && (vf 1 == Int.ofNat 0 && (vf 2 == Int.ofNat 0 && (vf 3 == Int.ofNat 0 && (vf 4 == Int.ofNat 0 && (vf 5 == Int.ofNat 0 && (vf 6 == Int.ofNat 0 && (vf 7 == Int.ofNat 0 && true)))))))
                  · conv => whnf
                    (rw [hr]; simp_all; done)
                  · conv => whnf
                    (rw [hr]; simp_all; done)
              · conv => whnf
                cases z44 : vf 0 == Int.ofNat 0 && (vf 1 == Int.ofNat 0 && (vf 2 == Int.ofNat 0 && (vf 3 == Int.ofNat 0 && (vf 4 == Int.ofNat 0 && (vf 5 == Int.ofNat 0 && (vf 6 == Int.ofNat 0 && (vf 7 == Int.ofNat 0 && true)))))))
                · conv => whnf
                  (rw [hr]; simp_all; done)
                · conv => whnf
                  cases z45 : nx == Int.ofNat 0
                  · conv => whnf
                    (rw [hr]; simp_all; done)
                  · conv => whnf
                    with_reducible refine ⟨_, _, c1 _ _, ?_⟩
                    conv => whnf
                    (rw [hr]; simp_all; done)
            · conv => whnf
              cases z46 : ta == []
              · conv => whnf
                (rw [hr]; simp_all; done)
              · conv => whnf
                cases z47 : nx == Int.ofNat 0
                · conv => whnf
                  (rw [hr]; simp_all; done)
                · conv => whnf
                  (rw [hr]; simp_all; done)
          · conv => whnf
            cases z48 : vf 0 == Int.ofNat 0 && (vf 1 == Int.ofNat 0 && (vf 2 == Int.ofNat 0 && (vf 3 == Int.ofNat 0 && (vf 4 == Int.ofNat 0 && (vf 5 == Int.ofNat 0 && (vf 6 == Int.ofNat 0 && (vf 7 == Int.ofNat 0 && true)))))))
            · conv => whnf
              (rw [hr]; simp_all; done)
            · conv => whnf
              cases z49 : ta == []
              · conv => whnf
                (rw [hr]; simp_all; done)
              · conv => whnf
                cases z50 : nx == Int.ofNat 0
                · conv => whnf
                  (rw [hr]; simp_all; done)
                · conv => whnf
                  cases z51 : IntKind.u32.wrap ↑(BitVec.ofInt IntKind.u32.bits (IntKind.u32.wrap ↑(BitVec.ofInt IntKind.u32.bits (IntKind.u32.wrap ↑(BitVec.ofInt IntKind.u32.bits ge ||| BitVec.ofInt IntKind.u32.bits mo).toNat) ||| BitVec.ofInt IntKind.u32.bits us).toNat) ||| BitVec.ofInt IntKind.u32.bits ng).toNat == Int.ofNat 0
                  · conv => whnf
                    (rw [hr]; simp_all; done)
                  · conv => whnf
                    cases z52 : li == Int.ofNat 0
                    · conv => whnf
                      (rw [hr]; simp_all; done)
                    · conv => whnf
                      cases z53 : xrs == Int.ofNat 0 && (xrn == Int.ofNat 0 && true)
                      · conv => whnf
                        (rw [hr]; simp_all; done)
                      · conv => whnf
                        cases z54 : xws == Int.ofNat 0 && (xwn == Int.ofNat 0 && true)
                        · conv => whnf
                          (rw [hr]; simp_all; done)
                        · conv => whnf
                          (rw [hr]; simp_all; done)
end Go.Proofs.Ytnkeijebkpjdgaa.Ab
/- Over the engine: directories within one another. -/
namespace Go.Proofs.Ytnkeijebkpjdgaa.Ab
open Go Go.RowKit

set_option maxRecDepth 100000
/-- A loop whose state is told by what turns of the one that it began with. -/
theorem rounds_at {α : Type} {f : ST → (AX → ST → Prop) → Prop} {ks : Option (List Nat)} {n : Nat} {Q : AX → ST → Prop} (upd : ST → α → ST) (I : α → Prop) (μ : α → Nat) {s : ST} (m : Nat) (a : α) (ha : I a) (hm : μ a < m) (h0 : s.norm ks n = upd s a)
    (step : ∀ a m, I a → (∀ a' s', I a' → μ a' < μ a → s'.norm ks n = upd s a' → roundsK f (normK ks n) Q m s') → f (upd s a) fun x s' => match x with
      | .normal => roundsK f (normK ks n) Q m s'
      | x => Q x s') : roundsK f (normK ks n) Q m s := rounds_ind (upd s) I μ step m a s ha hm h0
def parentS (ns : List NodeS) (d : Int) : Int := match ns[d.toNat]? with
  | some x => x.parent
  | none => 0
def dirS (ns : List NodeS) (d : Int) : Bool := thereS ns d && kindS ns d == 2
def withinS (ns : List NodeS) (top : Int) : Nat → Int → Bool
  | 0, _ => false
  | k + 1, d => if dirS ns d = true then if (d == top) = true then true else if (d == 1) = true then false else withinS ns top k (parentS ns d) else false
set_option maxHeartbeats 8000000 in
theorem within_c (m : Nat) (from_ : FuncId) (h : H) (ns : List NodeS) (t : Bool) (gen d top : Int) (hl : ns.length ≤ 140737488351232) : evCall TE (m + 5) from_ (.fn 28 [] []) [.agg [.sl (nodesA ns) ns.length t, .int .u32 gen], .int .i64 d, .int .i64 top] h = some (.ret (.bool (withinS ns top (ns.length + 1) d)), h) := by
  have c1 : ∀ (f : FuncId) (h : H) (d : Int), (evAll TE (m + 3)).1 f (.fn 20 [] []) [.agg [.sl (nodesA ns) ns.length t, .int .u32 gen], .int .i64 d, .int .u32 2] h = some (.ret (.bool (dirS ns d)), h) := fun f h d => is_c (m + 1) f h ns t gen d 2
  obtain ⟨r, hr⟩ : ∃ r, r = withinS ns top (ns.length + 1) d := ⟨_, rfl⟩
  rw [← hr]
  have hw0 : IntKind.wrap .i64 ((ns.length : Int) + 1) = ns.length + 1 := wrap64 (by omega) (by omega)
  refine call_clean (fn := Try.f28) rfl Try.func28 rfl rfl rfl rfl rfl (Nat.le_of_ble_eq_true rfl) ?_
  conv => whnf
  (refine call_raw (fn := Try.f46) rfl Try.func46 rfl rfl (Nat.le_of_ble_eq_true rfl) ?_)
  conv => whnf
  (refine range_K ?_)
  conv => whnf
  (refine call_inline (fn := Try.f67) rfl Try.func67 rfl rfl ?_)
  conv => whnf
  rw [hw0]
  refine ⟨ns.length + 2, by show ns.length + 2 ≤ 4611686018427387904; omega, ?_⟩
  refine rounds_at (fun s (a : Int × Int) => ⟨RG.of 31 [(8, .int .i64 a.1), (7, .int .i64 ((ns.length : Int) + 1)), (2, .ref 4 0 0), (1, .ref 3 0 0), (0, .yc 5)], ⟨s.h.bs.set 4 (.cells [.int .i64 a.2] ⟨false, 0, false, true⟩), s.h.esc⟩⟩) (fun a => 0 ≤ a.1 ∧ a.1 ≤ ns.length + 1 ∧ r = withinS ns top (ns.length + 1 - a.1).toNat a.2) (fun a => (ns.length + 1 - a.1).toNat) _ (0, d) ⟨by omega, by omega, hr⟩ (by simp only; omega) (by kernel_rfl) ?_
  intro a m' hI ih
  obtain ⟨i, d'⟩ := a
  dsimp only at hI ih ⊢
  obtain ⟨hI0, hI1, hI2⟩ := hI
  clear hr
  conv => whnf
  cases h1 : decide (i < (ns.length : Int) + 1) with
  | false =>
    have h1 := of_decide_eq_false h1
    rw [show (ns.length + 1 - i).toNat = 0 by omega] at hI2
    clear ih
    conv => whnf
    (rw [hI2]; rfl)
  | true =>
    have h1 := of_decide_eq_true h1
    have hw : IntKind.wrap .i64 (i + 1) = i + 1 := wrap64 (by omega) (by omega)
    have hmu : (ns.length + 1 - IntKind.wrap .i64 (i + 1)).toNat < (ns.length + 1 - i).toNat := by rw [hw]; omega
    obtain ⟨k, hk⟩ : ∃ k, (ns.length + 1 - i).toNat = k + 1 := ⟨(ns.length + 1 - i).toNat - 1, by omega⟩
    have hk2 : (ns.length + 1 - IntKind.wrap .i64 (i + 1)).toNat = k := by rw [hw]; omega
    rw [hk, withinS] at hI2
    have hwa : 0 ≤ IntKind.wrap .i64 (i + 1) ∧ IntKind.wrap .i64 (i + 1) ≤ ns.length + 1 := by rw [hw]; omega
    have c2 := fun f h => c1 f h d'
    cases hd : dirS ns d' with
    | false =>
      rw [hd] at c2 hI2
      clear ih
      conv => whnf
      with_reducible refine ⟨_, _, c2 _ _, ?_⟩
      conv => whnf
      (rw [hI2]; rfl)
    | true =>
      rw [hd, if_pos rfl] at hI2
      rw [hd] at c2
      have hd2 := hd
      unfold dirS thereS at hd2
      rw [Bool.and_eq_true, Bool.and_eq_true, Bool.and_eq_true, decide_eq_true_eq, decide_eq_true_eq] at hd2
      have hd0 : 0 ≤ d' := by omega
      have hd1 := hd2.1.2.1
      obtain ⟨x, hx⟩ : ∃ x, ns[d'.toNat]? = some x := ⟨_, List.getElem?_eq_getElem (by omega)⟩
      have hp : parentS ns d' = x.parent := by unfold parentS; rw [hx]
      rw [hp] at hI2
      clear hd2
      cases q1 : (d' == top) with
      | true =>
        rw [q1, if_pos rfl] at hI2
        clear ih
        conv => whnf
        with_reducible refine ⟨_, _, c2 _ _, ?_⟩
        conv => whnf
        (refine yield_K ?_)
        conv => whnf
        ((with_reducible cases z0 : d' == top) <;> try exact Bool.noConfusion (Eq.trans (Eq.symm z0) q1))
        conv => whnf
        (rw [hI2])
      | false =>
        rw [q1, if_neg (fun h => Bool.noConfusion h)] at hI2
        cases q2 : (d' == (1 : Int)) with
        | true =>
          rw [q2, if_pos rfl] at hI2
          clear ih
          conv => whnf
          with_reducible refine ⟨_, _, c2 _ _, ?_⟩
          conv => whnf
          (refine yield_K ?_)
          conv => whnf
          ((with_reducible cases z0 : d' == top) <;> try exact Bool.noConfusion (Eq.trans (Eq.symm z0) q1))
          conv => whnf
          ((with_reducible cases z1 : d' == Int.ofNat 1) <;> try exact Bool.noConfusion (Eq.trans (Eq.symm z1) q2))
          conv => whnf
          (rw [hI2])
        | false =>
          rw [q2, if_neg (fun h => Bool.noConfusion h)] at hI2
          conv => whnf
          with_reducible refine ⟨_, _, c2 _ _, ?_⟩
          conv => whnf
          (refine yield_K ?_)
          conv => whnf
          ((with_reducible cases z0 : d' == top) <;> try exact Bool.noConfusion (Eq.trans (Eq.symm z0) q1))
          conv => whnf
          ((with_reducible cases z1 : d' == Int.ofNat 1) <;> try exact Bool.noConfusion (Eq.trans (Eq.symm z1) q2))
          conv => whnf
          (refine runK_ret (ev_indexSl (sz := 25) rfl rfl rfl rfl hd0 hd1) ?_)
          conv => whnf
          (refine runK_ret (ev_loadV (z := 1) rfl rfl rfl ((nodesA_cell hx 23 (by decide)).trans rfl)) ?_)
          conv => whnf
          (exact ih (IntKind.wrap .i64 (i + 1), x.parent) _ ⟨hwa.1, hwa.2, by rw [hk2]; exact hI2⟩ hmu (by kernel_rfl))
end Go.Proofs.Ytnkeijebkpjdgaa.Ab
