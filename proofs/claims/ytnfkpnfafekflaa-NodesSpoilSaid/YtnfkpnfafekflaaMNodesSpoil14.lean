import Derived.Test.YtnfkpnfafekflaaMNodesSpoil13
import Derived.Test.YtnfkpnfafekflaaMNodesSpoil11
set_option linter.unusedVariables false
set_option linter.unusedSimpArgs false
/- Over the engine: nodes.Check, walked. -/
namespace Go.Proofs.Ytnfkpnfafekflaa.Ab
open Go Go.RowKit
set_option maxRecDepth 100000
theorem living_c (m : Nat) (from_ : FuncId) (h : H) (ns : List NodeS) (t : Bool) (tg : Int) : evCall TE (m + 1) from_ (.fn 19 [] []) [.agg [.sl (nodesA ns) ns.length t, .int .u32 tg]] h = some (.ret (.fn 31 [] [.vref [.sl (nodesA ns) ns.length t, .int .u32 tg] 0]), h) := by
  refine call_clean (fn := Try.f19) rfl Try.func19 rfl rfl rfl rfl rfl (Nat.le_of_ble_eq_true rfl) ?_
  conv => whnf
  rfl
set_option maxHeartbeats 80000000 in
theorem check_c (m : Nat) (from_ : FuncId) (h : H) (ns : List NodeS) (t : Bool) (tg : Int) (hok : ∀ x ∈ ns, x.ok ∧ x.few) (hl : ns.length ≤ 140737488351232) : evCall TE (m + 12) from_ (.fn 6 [] []) [.agg [.sl (nodesA ns) ns.length t, .int .u32 tg]] h = some (.ret (.bool (checkS ns tg)), h) := by
  have c1 : ∀ (f : FuncId) (h : H), (evAll TE (m + 11)).1 f (.fn 14 [] []) [.agg [.sl (nodesA ns) ns.length t, .int .u32 tg], .int .i64 1, .int .u32 2] h = some (.ret (.bool (dirS ns 1)), h) := fun f h => is_c (m + 9) f h ns t tg 1 2
  have hwn : 2 ≤ ns.length → IntKind.wrap .i64 ((ns.length : Int) - 1) = ns.length - 1 := fun h => wrap64 (by omega) (by omega)
  have c2 : 2 ≤ ns.length → ∀ (f : FuncId) (h : H), (evAll TE (m + 11)).1 f (.fn 15 [] []) [.agg [.sl (nodesA ns) ns.length t, .int .u32 tg], .int .i64 (IntKind.wrap .i64 ((ns.length : Int) - 1))] h = some (.ret (.bool (thereS ns (ns.length - 1))), h) := fun h2 f h => by
    rw [hwn h2]
    exact there_c (m + 10) f h _ ns (.inr ⟨t, rfl⟩) tg _
  have c3 : ∀ (f : FuncId) (h : H), (evAll TE (m + 11)).1 f (.fn 16 [] []) [.sl (nodesA ns) ns.length t, .fn 17 [] []] h = some (.ret (.bool (anyBad ns)), h) := fun f h => contains_bad (m + 3) f h ns t (fun x hx => ⟨(hok x hx).1, (hok x hx).2.target⟩) hl
  obtain ⟨r, hr⟩ : ∃ r, r = checkS ns tg := ⟨_, rfl⟩
  rw [← hr]
  unfold checkS preBad at hr
  cases p1 : decide ((ns.length : Int) < 2) with
  | true =>
    rw [p1] at hr
    refine call_clean (fn := Try.f6) rfl Try.func6 rfl rfl rfl rfl rfl (Nat.le_of_ble_eq_true rfl) ?_
    conv => whnf
    ((with_reducible cases z0 : decide (↑ns.length < Int.ofNat 2)) <;>     try exact Bool.noConfusion (Eq.trans (Eq.symm z0) p1))
    conv => whnf
    (rw [hr]; rfl)
  | false =>
    have h2 : 2 ≤ ns.length := by have := of_decide_eq_false p1; omega
    have c2 := c2 h2
    clear hwn
    obtain ⟨x0, hx0⟩ : ∃ x, ns[(0 : Int).toNat]? = some x := ⟨_, List.getElem?_eq_getElem (by show 0 < _; omega)⟩
    obtain ⟨x1, hx1⟩ : ∃ x, ns[(1 : Int).toNat]? = some x := ⟨_, List.getElem?_eq_getElem (by show 1 < _; omega)⟩
    have hk0 : kindS ns 0 = x0.kind := by unfold kindS; rw [hx0]
    have hp1 : parentS ns 1 = x1.parent := by unfold parentS; rw [hx1]
    rw [hk0, hp1, p1, Bool.false_or] at hr
    have hb0 : (0 : Int) < ns.length := by omega
    have hb1 : (1 : Int) < ns.length := by omega
    generalize dirS ns 1 = q1 at c1 hr
    generalize thereS ns (ns.length - 1) = q2 at c2 hr
    obtain ⟨q3, hq3⟩ : ∃ q, anyBad ns = q := ⟨_, rfl⟩
    rw [hq3] at c3 hr
    cases b1 : decide ((ns.length : Int) > 1025) with
    | true =>
      rw [b1] at hr
      refine call_clean (fn := Try.f6) rfl Try.func6 rfl rfl rfl rfl rfl (Nat.le_of_ble_eq_true rfl) ?_
      conv => whnf
      ((with_reducible cases z0 : decide (↑ns.length < Int.ofNat 2)) <;>     try exact Bool.noConfusion (Eq.trans (Eq.symm z0) p1))
      conv => whnf
      ((with_reducible cases z1 : decide (↑ns.length > Int.ofNat 1025)) <;>     try exact Bool.noConfusion (Eq.trans (Eq.symm z1) b1))
      conv => whnf
      (rw [hr]; rfl)
    | false =>
      rw [b1] at hr
      cases b2 : (x0.kind != 0) with
      | true =>
        rw [b2] at hr
        refine call_clean (fn := Try.f6) rfl Try.func6 rfl rfl rfl rfl rfl (Nat.le_of_ble_eq_true rfl) ?_
        conv => whnf
        ((with_reducible cases z0 : decide (↑ns.length < Int.ofNat 2)) <;>     try exact Bool.noConfusion (Eq.trans (Eq.symm z0) p1))
        conv => whnf
        ((with_reducible cases z1 : decide (↑ns.length > Int.ofNat 1025)) <;>     try exact Bool.noConfusion (Eq.trans (Eq.symm z1) b1))
        conv => whnf
        (refine runK_ret (ev_indexSl (sz := 25) rfl rfl rfl rfl (Int.le_refl 0) hb0) ?_)
        conv => whnf
        (refine runK_ret (ev_loadV (z := 1) rfl rfl rfl ((nodesA_cell hx0 0 (by decide)).trans rfl)) ?_)
        conv => whnf
        ((with_reducible cases z2 : x0.kind != Int.ofNat 0) <;> try exact Bool.noConfusion (Eq.trans (Eq.symm z2) b2))
        conv => whnf
        (rw [hr]; rfl)
      | false =>
        rw [b2] at hr
        cases q1 with
        | false =>
          refine call_clean (fn := Try.f6) rfl Try.func6 rfl rfl rfl rfl rfl (Nat.le_of_ble_eq_true rfl) ?_
          conv => whnf
          ((with_reducible cases z0 : decide (↑ns.length < Int.ofNat 2)) <;>     try exact Bool.noConfusion (Eq.trans (Eq.symm z0) p1))
          conv => whnf
          ((with_reducible cases z1 : decide (↑ns.length > Int.ofNat 1025)) <;>     try exact Bool.noConfusion (Eq.trans (Eq.symm z1) b1))
          conv => whnf
          (refine runK_ret (ev_indexSl (sz := 25) rfl rfl rfl rfl (Int.le_refl 0) hb0) ?_)
          conv => whnf
          (refine runK_ret (ev_loadV (z := 1) rfl rfl rfl ((nodesA_cell hx0 0 (by decide)).trans rfl)) ?_)
          conv => whnf
          ((with_reducible cases z2 : x0.kind != Int.ofNat 0) <;> try exact Bool.noConfusion (Eq.trans (Eq.symm z2) b2))
          conv => whnf
          with_reducible refine ⟨_, _, c1 _ _, ?_⟩
          conv => whnf
          (rw [hr]; rfl)
        | true =>
          cases b4 : (x1.parent != 1) with
          | true =>
            rw [b4] at hr
            refine call_clean (fn := Try.f6) rfl Try.func6 rfl rfl rfl rfl rfl (Nat.le_of_ble_eq_true rfl) ?_
            conv => whnf
            ((with_reducible cases z0 : decide (↑ns.length < Int.ofNat 2)) <;>     try exact Bool.noConfusion (Eq.trans (Eq.symm z0) p1))
            conv => whnf
            ((with_reducible cases z1 : decide (↑ns.length > Int.ofNat 1025)) <;>     try exact Bool.noConfusion (Eq.trans (Eq.symm z1) b1))
            conv => whnf
            (refine runK_ret (ev_indexSl (sz := 25) rfl rfl rfl rfl (Int.le_refl 0) hb0) ?_)
            conv => whnf
            (refine runK_ret (ev_loadV (z := 1) rfl rfl rfl ((nodesA_cell hx0 0 (by decide)).trans rfl)) ?_)
            conv => whnf
            ((with_reducible cases z2 : x0.kind != Int.ofNat 0) <;> try exact Bool.noConfusion (Eq.trans (Eq.symm z2) b2))
            conv => whnf
            with_reducible refine ⟨_, _, c1 _ _, ?_⟩
            conv => whnf
            (refine runK_ret (ev_indexSl (sz := 25) rfl rfl rfl rfl (by decide) hb1) ?_)
            conv => whnf
            (refine runK_ret (ev_loadV (z := 1) rfl rfl rfl ((nodesA_cell hx1 23 (by decide)).trans rfl)) ?_)
            conv => whnf
            ((with_reducible cases z3 : x1.parent != Int.ofNat 1) <;> try exact Bool.noConfusion (Eq.trans (Eq.symm z3) b4))
            conv => whnf
            (rw [hr]; rfl)
          | false =>
            rw [b4] at hr
            cases q2 with
            | false =>
              refine call_clean (fn := Try.f6) rfl Try.func6 rfl rfl rfl rfl rfl (Nat.le_of_ble_eq_true rfl) ?_
              conv => whnf
              ((with_reducible cases z0 : decide (↑ns.length < Int.ofNat 2)) <;>     try exact Bool.noConfusion (Eq.trans (Eq.symm z0) p1))
              conv => whnf
              ((with_reducible cases z1 : decide (↑ns.length > Int.ofNat 1025)) <;>     try exact Bool.noConfusion (Eq.trans (Eq.symm z1) b1))
              conv => whnf
              (refine runK_ret (ev_indexSl (sz := 25) rfl rfl rfl rfl (Int.le_refl 0) hb0) ?_)
              conv => whnf
              (refine runK_ret (ev_loadV (z := 1) rfl rfl rfl ((nodesA_cell hx0 0 (by decide)).trans rfl)) ?_)
              conv => whnf
              ((with_reducible cases z2 : x0.kind != Int.ofNat 0) <;> try exact Bool.noConfusion (Eq.trans (Eq.symm z2) b2))
              conv => whnf
              with_reducible refine ⟨_, _, c1 _ _, ?_⟩
              conv => whnf
              (refine runK_ret (ev_indexSl (sz := 25) rfl rfl rfl rfl (by decide) hb1) ?_)
              conv => whnf
              (refine runK_ret (ev_loadV (z := 1) rfl rfl rfl ((nodesA_cell hx1 23 (by decide)).trans rfl)) ?_)
              conv => whnf
              ((with_reducible cases z3 : x1.parent != Int.ofNat 1) <;> try exact Bool.noConfusion (Eq.trans (Eq.symm z3) b4))
              conv => whnf
              with_reducible refine ⟨_, _, c2 _ _, ?_⟩
              conv => whnf
              (rw [hr]; rfl)
            | true =>
              cases q3 with
              | true =>
                refine call_clean (fn := Try.f6) rfl Try.func6 rfl rfl rfl rfl rfl (Nat.le_of_ble_eq_true rfl) ?_
                conv => whnf
                ((with_reducible cases z0 : decide (↑ns.length < Int.ofNat 2)) <;>     try exact Bool.noConfusion (Eq.trans (Eq.symm z0) p1))
                conv => whnf
                ((with_reducible cases z1 : decide (↑ns.length > Int.ofNat 1025)) <;>     try exact Bool.noConfusion (Eq.trans (Eq.symm z1) b1))
                conv => whnf
                (refine runK_ret (ev_indexSl (sz := 25) rfl rfl rfl rfl (Int.le_refl 0) hb0) ?_)
                conv => whnf
                (refine runK_ret (ev_loadV (z := 1) rfl rfl rfl ((nodesA_cell hx0 0 (by decide)).trans rfl)) ?_)
                conv => whnf
                ((with_reducible cases z2 : x0.kind != Int.ofNat 0) <;> try exact Bool.noConfusion (Eq.trans (Eq.symm z2) b2))
                conv => whnf
                with_reducible refine ⟨_, _, c1 _ _, ?_⟩
                conv => whnf
                (refine runK_ret (ev_indexSl (sz := 25) rfl rfl rfl rfl (by decide) hb1) ?_)
                conv => whnf
                (refine runK_ret (ev_loadV (z := 1) rfl rfl rfl ((nodesA_cell hx1 23 (by decide)).trans rfl)) ?_)
                conv => whnf
                ((with_reducible cases z3 : x1.parent != Int.ofNat 1) <;> try exact Bool.noConfusion (Eq.trans (Eq.symm z3) b4))
                conv => whnf
                with_reducible refine ⟨_, _, c2 _ _, ?_⟩
                conv => whnf
                with_reducible refine ⟨_, _, c3 _ _, ?_⟩
                conv => whnf
                (rw [hr]; rfl)
              | false =>
                have hle : ns.length ≤ 1025 := by have := of_decide_eq_false b1; omega
                have c4 : ∀ (f : FuncId) (h : H), (evAll TE (m + 11)).1 f (.fn 19 [] []) [.agg [.sl (nodesA ns) ns.length t, .int .u32 tg]] h = some (.ret (.fn 31 [] [.vref [.sl (nodesA ns) ns.length t, .int .u32 tg] 0]), h) := fun f h => living_c (m + 10) f h ns t tg
                refine call_clean (fn := Try.f6) rfl Try.func6 rfl rfl rfl rfl rfl (Nat.le_of_ble_eq_true rfl) ?_
                conv => whnf
                ((with_reducible cases z0 : decide (↑ns.length < Int.ofNat 2)) <;>     try exact Bool.noConfusion (Eq.trans (Eq.symm z0) p1))
                conv => whnf
                ((with_reducible cases z1 : decide (↑ns.length > Int.ofNat 1025)) <;>     try exact Bool.noConfusion (Eq.trans (Eq.symm z1) b1))
                conv => whnf
                (refine runK_ret (ev_indexSl (sz := 25) rfl rfl rfl rfl (Int.le_refl 0) hb0) ?_)
                conv => whnf
                (refine runK_ret (ev_loadV (z := 1) rfl rfl rfl ((nodesA_cell hx0 0 (by decide)).trans rfl)) ?_)
                conv => whnf
                ((with_reducible cases z2 : x0.kind != Int.ofNat 0) <;> try exact Bool.noConfusion (Eq.trans (Eq.symm z2) b2))
                conv => whnf
                with_reducible refine ⟨_, _, c1 _ _, ?_⟩
                conv => whnf
                (refine runK_ret (ev_indexSl (sz := 25) rfl rfl rfl rfl (by decide) hb1) ?_)
                conv => whnf
                (refine runK_ret (ev_loadV (z := 1) rfl rfl rfl ((nodesA_cell hx1 23 (by decide)).trans rfl)) ?_)
                conv => whnf
                ((with_reducible cases z3 : x1.parent != Int.ofNat 1) <;> try exact Bool.noConfusion (Eq.trans (Eq.symm z3) b4))
                conv => whnf
                with_reducible refine ⟨_, _, c2 _ _, ?_⟩
                conv => whnf
                with_reducible refine ⟨_, _, c3 _ _, ?_⟩
                conv => whnf
                (refine     runK_ret       (ev_makeN (sz := 1) (by_ := 8) rfl rfl rfl rfl rfl rfl (by omega) (by omega) rfl (by decide) rfl (rep_ints _)) ?_)
                conv => whnf
                (refine     runK_ret       (ev_makeN (sz := 1) (by_ := 8) rfl rfl rfl rfl rfl rfl (by omega) (by omega) rfl (by decide) rfl (rep_ints _)) ?_)
                conv => whnf
                (refine     runK_ret       (ev_makeN (sz := 1) (by_ := 8) rfl rfl rfl rfl rfl rfl (by omega) (by omega) rfl (by decide) rfl (rep_ints _)) ?_)
                conv => whnf
                (refine ⟨by kernel_rfl, ?_⟩)
                conv => whnf
                with_reducible refine ⟨_, _, c4 _ _, ?_⟩
                conv => whnf
                (refine range_K ?_)
                conv => whnf
                (refine call_inline (fn := Try.f31) rfl Try.func31 rfl rfl ?_)
                conv => whnf
                refine ⟨ns.length + 1, by show ns.length + 1 ≤ 4611686018427387904; omega, ?_⟩
                refine rounds_at (fun s (a : Int × List Int × Cnt) => ⟨RG.of 24 [(8, .int .i64 a.1), (7, .int .i64 ns.length), (6, .sl (nodesA ns) ns.length t), (0, .yc 17)], ⟨(((s.h.bs.set 4 (.cells (numsA .i64 a.2.2.named) ⟨true, 1, false, true⟩)).set 6 (.cells (numsA .i64 a.2.2.subs) ⟨true, 1, false, true⟩)).set 8 (.cells (numsA .i64 a.2.2.home) ⟨true, 1, false, true⟩)).set 2 (.map (gensA a.2.1)), s.h.esc⟩⟩) (fun a => 0 ≤ a.1 ∧ a.1 ≤ ns.length ∧ a.2.2.len ns.length ∧ r = (match pass1 ns tg (ns.drop a.1.toNat) a.1 a.2.1 a.2.2 with
                  | some c => pass2 ns c ns 0
                  | none => false)) (fun a => (ns.length - a.1).toNat) _ (0, [], cnt0 ns.length) ⟨by simp only; omega, by simp only; omega, ⟨List.length_replicate .., List.length_replicate .., List.length_replicate ..⟩, by rw [hr]; rfl⟩ (by simp only; omega) (by kernel_rfl) ?_
                intro a m' hI ih
                obtain ⟨i, g, c⟩ := a
                dsimp only at hI ih ⊢
                obtain ⟨hI0, hI1, hI3, hI2⟩ := hI
                clear hr
                conv => whnf
                cases h1 : decide (i < (ns.length : Int)) with
                | false =>
                  have h1 := of_decide_eq_false h1
                  rw [List.drop_eq_nil_of_le (by omega), pass1] at hI2
                  dsimp only at hI2
                  clear ih
                  conv => whnf
                  with_reducible refine ⟨_, _, c4 _ _, ?_⟩
                  conv => whnf
                  (refine range_K ?_)
                  conv => whnf
                  (refine call_inline (fn := Try.f31) rfl Try.func31 rfl rfl ?_)
                  conv => whnf
                  refine ⟨ns.length + 1, by show ns.length + 1 ≤ 4611686018427387904; omega, ?_⟩
                  refine rounds_at (fun s (a : Int) => ⟨RG.of 24 [(8, .int .i64 a), (7, .int .i64 ns.length), (6, .sl (nodesA ns) ns.length t), (0, .yc 17)], ⟨s.h.bs, s.h.esc⟩⟩) (fun a => 0 ≤ a ∧ a ≤ ns.length ∧ r = pass2 ns c (ns.drop a.toNat) a) (fun a => (ns.length - a).toNat) _ 0 ⟨by omega, by omega, hI2⟩ (by omega) (by kernel_rfl) ?_
                  clear hI2 h1 hI0 hI1
                  intro i2 m2 hK ih3
                  obtain ⟨hK0, hK1, hK2⟩ := hK
                  conv => whnf
                  cases h4 : decide (i2 < (ns.length : Int)) with
                  | false =>
                    have h4 := of_decide_eq_false h4
                    rw [List.drop_eq_nil_of_le (by omega), pass2] at hK2
                    clear ih3
                    conv => whnf
                    (rw [hK2])
                  | true =>
                    have h4 := of_decide_eq_true h4
                    have hin : i2.toNat < ns.length := by omega
                    obtain ⟨x, hx⟩ : ∃ x, ns[i2.toNat]? = some x := ⟨_, List.getElem?_eq_getElem hin⟩
                    have hcx : i2.toNat * 25 + 25 ≤ (nodesA ns).length := by rw [nodesA_len]; omega
                    have hdx := nodesA_node hx
                    have hw : IntKind.wrap .i64 (i2 + 1) = i2 + 1 := wrap64 (by omega) (by omega)
                    have hmu : (ns.length - IntKind.wrap .i64 (i2 + 1)).toNat < (ns.length - i2).toNat := by rw [hw]; omega
                    have hwa : 0 ≤ IntKind.wrap .i64 (i2 + 1) ∧ IntKind.wrap .i64 (i2 + 1) ≤ ns.length := by rw [hw]; omega
                    rw [pass2_drop hK0 hx, ← hw] at hK2
                    have cW : ∀ (f : FuncId) (h : H), (evAll TE (m + 9)).1 f (.fn 11 [] []) [.agg [.sl (nodesA ns) ns.length t, .int .u32 tg], .int .i64 i2, .int .i64 1] h = some (.ret (.bool (withinS ns 1 (ns.length + 1) i2)), h) := fun f h => within_c (m + 4) f h ns t tg i2 1 hl
                    have hxo := (hok x (List.mem_of_getElem? hx)).1
                    have honeL : oneL (nodeA x) = true := nodeA_one hxo
                    have htop : topL (nodeA x) = 0 := nodeA_top0 hxo
                    unfold nodeA at honeL htop
                    obtain ⟨n1, n2, n3⟩ := hI3
                    have hN : i2.toNat < c.named.length := by omega
                    have hS : i2.toNat < c.subs.length := by omega
                    have hH : i2.toNat < c.home.length := by omega
                    obtain ⟨bd, hbd⟩ : ∃ b, b = nodeBad2 ns c i2 x := ⟨_, rfl⟩
                    rw [← hbd] at hK2
                    unfold nodeBad2 at0 at hbd
                    generalize withinS ns 1 (ns.length + 1) i2 = wi at cW hbd
                    obtain ⟨kd, ge, mo, us, ng, li, xrs, xrn, xws, xwn, ts, tn, da, by_, vf, ta, ls, es, pa, nx⟩ := x
                    dsimp only at hK2 hbd honeL htop
                    cases qk : (kd != 0) with
                    | false =>
                      rw [qk, if_neg (fun h => Bool.noConfusion h)] at hK2
                      conv => whnf
                      (refine runK_ret (ev_indexSl (sz := 25) rfl rfl rfl rfl hK0 h4) ?_)
                      conv => whnf
                      (refine runK_ret (ev_loadVA (z := 25) rfl rfl rfl hcx hdx) ?_)
                      conv => whnf
                      (refine runK_store (z := 25) rfl rfl rfl rfl honeL rfl rfl rfl (Nat.le_of_ble_eq_true rfl) (.inl rfl) ?_)
                      conv => whnf
                      (refine listK_of (if_pos (Nat.le_trans (Nat.le_of_eq htop) (Nat.zero_le _))) ?_)
                      conv => whnf
                      ((with_reducible cases z0 : kd != Int.ofNat 0) <;> try exact Bool.noConfusion (Eq.trans (Eq.symm z0) qk))
                      conv => whnf
                      (exact ih3 (IntKind.wrap .i64 (i2 + 1)) _ ⟨hwa.1, hwa.2, hK2⟩ hmu (by kernel_rfl))
                    | true =>
                      rw [qk, if_pos rfl] at hK2
                      have hfa : bd = true → r = false := fun hb => by rw [hK2, hb]; rfl
                      have hst : bd = false → 0 ≤ IntKind.wrap .i64 (i2 + 1) ∧ IntKind.wrap .i64 (i2 + 1) ≤ ns.length ∧ r = pass2 ns c (ns.drop (IntKind.wrap .i64 (i2 + 1)).toNat) (IntKind.wrap .i64 (i2 + 1)) := fun hb => by
                        rw [hb, if_neg (fun h => Bool.noConfusion h)] at hK2
                        exact ⟨hwa.1, hwa.2, hK2⟩
                      conv => whnf
                      (refine runK_ret (ev_indexSl (sz := 25) rfl rfl rfl rfl hK0 h4) ?_)
                      conv => whnf
                      (refine runK_ret (ev_loadVA (z := 25) rfl rfl rfl hcx hdx) ?_)
                      conv => whnf
                      (refine runK_store (z := 25) rfl rfl rfl rfl honeL rfl rfl rfl (Nat.le_of_ble_eq_true rfl) (.inl rfl) ?_)
                      conv => whnf
                      (refine listK_of (if_pos (Nat.le_trans (Nat.le_of_eq htop) (Nat.zero_le _))) ?_)
                      conv => whnf
                      ((with_reducible cases z0 : kd != Int.ofNat 0) <;> try exact Bool.noConfusion (Eq.trans (Eq.symm z0) qk))
                      conv => whnf
                      (refine yield_K ?_)
                      conv => whnf
                      (refine runK_store (z := 25) rfl rfl rfl rfl honeL rfl rfl rfl (Nat.le_of_ble_eq_true rfl) (.inl rfl) ?_)
                      conv => whnf
                      (refine listK_of (if_pos (Nat.le_trans (Nat.le_of_eq htop) (Nat.zero_le _))) ?_)
                      conv => whnf
                      (refine runK_ret (ev_indexRsl (sz := 1) rfl rfl rfl rfl hK0 h4) ?_)
                      conv => whnf
                      (refine runK_if rfl (runK_cell rfl (ints_get (l := c.named) (k := i2.toNat) hN) (runK_ret rfl ?_)))
                      conv => whnf
                      with_reducible cases z1 : li != c.named[i2.toNat]?.getD (Int.ofNat 0)
                      · conv => whnf
                        (refine runK_ret (ev_indexRsl (sz := 1) rfl rfl rfl rfl hK0 h4) ?_)
                        conv => whnf
                        (refine runK_if rfl (runK_cell rfl (ints_get (l := c.named) (k := i2.toNat) hN) (runK_ret rfl ?_)))
                        conv => whnf
                        with_reducible cases z2 : decide (c.named[i2.toNat]?.getD (Int.ofNat 0) < Int.ofNat 1)
                        · conv => whnf
                          (refine runK_ret (ev_indexRsl (sz := 1) rfl rfl rfl rfl hK0 h4) ?_)
                          conv => whnf
                          (refine runK_if rfl (runK_cell rfl (ints_get (l := c.named) (k := i2.toNat) hN) (runK_ret rfl ?_)))
                          conv => whnf
                          (refine ⟨by kernel_rfl, ?_⟩)
                          conv => whnf
                          with_reducible cases z3 : kd == Int.ofNat 2
                          · conv => whnf
                            with_reducible cases z4 : decide (c.named[i2.toNat]?.getD (Int.ofNat 0) > Int.ofNat 200)
                            · conv => whnf
                              (exact     ih3 (IntKind.wrap .i64 (i2 + 1)) _ (hst (by clear ih3; rw [hbd]; simp_all <;> (intro hh; exfalso; omega))) hmu       (by kernel_rfl))
                            · conv => whnf
                              (rw [hfa (by clear ih3; rw [hbd]; simp_all)])
                          · conv => whnf
                            (refine runK_ret (ev_indexRsl (sz := 1) rfl rfl rfl rfl hK0 h4) ?_)
                            conv => whnf
                            (refine runK_if rfl (runK_cell rfl (ints_get (l := c.subs) (k := i2.toNat) hS) (runK_ret rfl ?_)))
                            conv => whnf
                            with_reducible cases z5 : li != IntKind.i64.wrap (Int.ofNat 2 + c.subs[i2.toNat]?.getD (Int.ofNat 0))
                            · conv => whnf
                              with_reducible cases z6 : decide (i2 > Int.ofNat 1)
                              · conv => whnf
                                (refine ⟨by kernel_rfl, ?_⟩)
                                conv => whnf
                                (exact     ih3 (IntKind.wrap .i64 (i2 + 1)) _ (hst (by clear ih3; rw [hbd]; simp_all <;> (intro hh; exfalso; omega))) hmu       (by kernel_rfl))
                              · conv => whnf
                                (refine runK_ret (ev_indexRsl (sz := 1) rfl rfl rfl rfl hK0 h4) ?_)
                                conv => whnf
                                (refine runK_if rfl (runK_cell rfl (ints_get (l := c.named) (k := i2.toNat) hN) (runK_ret rfl ?_)))
                                conv => whnf
                                with_reducible cases z7 : c.named[i2.toNat]?.getD (Int.ofNat 0) != Int.ofNat 1
                                · conv => whnf
                                  (refine runK_ret (ev_indexRsl (sz := 1) rfl rfl rfl rfl hK0 h4) ?_)
                                  conv => whnf
                                  (refine runK_if rfl (runK_cell rfl (ints_get (l := c.home) (k := i2.toNat) hH) (runK_ret rfl ?_)))
                                  conv => whnf
                                  with_reducible cases z8 : c.home[i2.toNat]?.getD (Int.ofNat 0) != pa
                                  · conv => whnf
                                    with_reducible refine ⟨_, _, cW _ _, ?_⟩
                                    conv => whnf
                                    (refine ⟨by kernel_rfl, ?_⟩)
                                    conv => whnf
                                    (refine ⟨by kernel_rfl, ?_⟩)
                                    conv => whnf
                                    cases wi
                                    · conv => whnf
                                      (rw [hfa (by clear ih3; rw [hbd]; simp_all)])
                                    · conv => whnf
                                      (exact     ih3 (IntKind.wrap .i64 (i2 + 1)) _ (hst (by clear ih3; rw [hbd]; simp_all <;> (intro hh; exfalso; omega))) hmu       (by kernel_rfl))
                                  · conv => whnf
                                    (refine ⟨by kernel_rfl, ?_⟩)
                                    conv => whnf
                                    (rw [hfa (by clear ih3; rw [hbd]; simp_all)])
                                · conv => whnf
                                  (refine ⟨by kernel_rfl, ?_⟩)
                                  conv => whnf
                                  (rw [hfa (by clear ih3; rw [hbd]; simp_all)])
                            · conv => whnf
                              (refine ⟨by kernel_rfl, ?_⟩)
                              conv => whnf
                              (rw [hfa (by clear ih3; rw [hbd]; simp_all)])
                        · conv => whnf
                          (refine ⟨by kernel_rfl, ?_⟩)
                          conv => whnf
                          with_reducible cases z10 : kd == Int.ofNat 2
                          · conv => whnf
                            (rw [hfa (by clear ih3; rw [hbd]; simp_all)])
                          · conv => whnf
                            (refine runK_ret (ev_indexRsl (sz := 1) rfl rfl rfl rfl hK0 h4) ?_)
                            conv => whnf
                            (refine runK_if rfl (runK_cell rfl (ints_get (l := c.subs) (k := i2.toNat) hS) (runK_ret rfl ?_)))
                            conv => whnf
                            with_reducible cases z11 : li != IntKind.i64.wrap (Int.ofNat 2 + c.subs[i2.toNat]?.getD (Int.ofNat 0))
                            · conv => whnf
                              with_reducible cases z12 : decide (i2 > Int.ofNat 1)
                              · conv => whnf
                                (refine ⟨by kernel_rfl, ?_⟩)
                                conv => whnf
                                (exact     ih3 (IntKind.wrap .i64 (i2 + 1)) _ (hst (by clear ih3; rw [hbd]; simp_all <;> (intro hh; exfalso; omega))) hmu       (by kernel_rfl))
                              · conv => whnf
                                (refine runK_ret (ev_indexRsl (sz := 1) rfl rfl rfl rfl hK0 h4) ?_)
                                conv => whnf
                                (refine runK_if rfl (runK_cell rfl (ints_get (l := c.named) (k := i2.toNat) hN) (runK_ret rfl ?_)))
                                conv => whnf
                                with_reducible cases z13 : c.named[i2.toNat]?.getD (Int.ofNat 0) != Int.ofNat 1
                                · conv => whnf
                                  (refine runK_ret (ev_indexRsl (sz := 1) rfl rfl rfl rfl hK0 h4) ?_)
                                  conv => whnf
                                  (refine runK_if rfl (runK_cell rfl (ints_get (l := c.home) (k := i2.toNat) hH) (runK_ret rfl ?_)))
                                  conv => whnf
                                  with_reducible cases z14 : c.home[i2.toNat]?.getD (Int.ofNat 0) != pa
                                  · conv => whnf
                                    with_reducible refine ⟨_, _, cW _ _, ?_⟩
                                    conv => whnf
                                    (refine ⟨by kernel_rfl, ?_⟩)
                                    conv => whnf
                                    (refine ⟨by kernel_rfl, ?_⟩)
                                    conv => whnf
                                    cases wi
                                    · conv => whnf
                                      (rw [hfa (by clear ih3; rw [hbd]; simp_all)])
                                    · conv => whnf
                                      (exact     ih3 (IntKind.wrap .i64 (i2 + 1)) _ (hst (by clear ih3; rw [hbd]; simp_all <;> (intro hh; exfalso; omega))) hmu       (by kernel_rfl))
                                  · conv => whnf
                                    (refine ⟨by kernel_rfl, ?_⟩)
                                    conv => whnf
                                    (rw [hfa (by clear ih3; rw [hbd]; simp_all)])
                                · conv => whnf
                                  (refine ⟨by kernel_rfl, ?_⟩)
                                  conv => whnf
                                  (rw [hfa (by clear ih3; rw [hbd]; simp_all)])
                            · conv => whnf
                              (refine ⟨by kernel_rfl, ?_⟩)
                              conv => whnf
                              (rw [hfa (by clear ih3; rw [hbd]; simp_all)])
                      · conv => whnf
                        (refine ⟨by kernel_rfl, ?_⟩)
                        conv => whnf
                        with_reducible cases z16 : kd == Int.ofNat 2
                        · conv => whnf
                          (rw [hfa (by clear ih3; rw [hbd]; simp_all)])
                        · conv => whnf
                          (refine runK_ret (ev_indexRsl (sz := 1) rfl rfl rfl rfl hK0 h4) ?_)
                          conv => whnf
                          (refine runK_if rfl (runK_cell rfl (ints_get (l := c.subs) (k := i2.toNat) hS) (runK_ret rfl ?_)))
                          conv => whnf
                          with_reducible cases z17 : li != IntKind.i64.wrap (Int.ofNat 2 + c.subs[i2.toNat]?.getD (Int.ofNat 0))
                          · conv => whnf
                            with_reducible cases z18 : decide (i2 > Int.ofNat 1)
                            · conv => whnf
                              (refine ⟨by kernel_rfl, ?_⟩)
                              conv => whnf
                              (exact     ih3 (IntKind.wrap .i64 (i2 + 1)) _ (hst (by clear ih3; rw [hbd]; simp_all <;> (intro hh; exfalso; omega))) hmu       (by kernel_rfl))
                            · conv => whnf
                              (refine runK_ret (ev_indexRsl (sz := 1) rfl rfl rfl rfl hK0 h4) ?_)
                              conv => whnf
                              (refine runK_if rfl (runK_cell rfl (ints_get (l := c.named) (k := i2.toNat) hN) (runK_ret rfl ?_)))
                              conv => whnf
                              with_reducible cases z19 : c.named[i2.toNat]?.getD (Int.ofNat 0) != Int.ofNat 1
                              · conv => whnf
                                (refine runK_ret (ev_indexRsl (sz := 1) rfl rfl rfl rfl hK0 h4) ?_)
                                conv => whnf
                                (refine runK_if rfl (runK_cell rfl (ints_get (l := c.home) (k := i2.toNat) hH) (runK_ret rfl ?_)))
                                conv => whnf
                                with_reducible cases z20 : c.home[i2.toNat]?.getD (Int.ofNat 0) != pa
                                · conv => whnf
                                  with_reducible refine ⟨_, _, cW _ _, ?_⟩
                                  conv => whnf
                                  (refine ⟨by kernel_rfl, ?_⟩)
                                  conv => whnf
                                  (refine ⟨by kernel_rfl, ?_⟩)
                                  conv => whnf
                                  cases wi
                                  · conv => whnf
                                    (rw [hfa (by clear ih3; rw [hbd]; simp_all)])
                                  · conv => whnf
                                    (exact     ih3 (IntKind.wrap .i64 (i2 + 1)) _ (hst (by clear ih3; rw [hbd]; simp_all <;> (intro hh; exfalso; omega))) hmu       (by kernel_rfl))
                                · conv => whnf
                                  (refine ⟨by kernel_rfl, ?_⟩)
                                  conv => whnf
                                  (rw [hfa (by clear ih3; rw [hbd]; simp_all)])
                              · conv => whnf
                                (refine ⟨by kernel_rfl, ?_⟩)
                                conv => whnf
                                (rw [hfa (by clear ih3; rw [hbd]; simp_all)])
                          · conv => whnf
                            (refine ⟨by kernel_rfl, ?_⟩)
                            conv => whnf
                            (rw [hfa (by clear ih3; rw [hbd]; simp_all)])
                | true =>
                  have h1 := of_decide_eq_true h1
                  have hin : i.toNat < ns.length := by omega
                  obtain ⟨x, hx⟩ : ∃ x, ns[i.toNat]? = some x := ⟨_, List.getElem?_eq_getElem hin⟩
                  have hcx : i.toNat * 25 + 25 ≤ (nodesA ns).length := by rw [nodesA_len]; omega
                  have hdx := nodesA_node hx
                  have hxm := List.mem_of_getElem? hx
                  have hw : IntKind.wrap .i64 (i + 1) = i + 1 := wrap64 (by omega) (by omega)
                  have hmu : (ns.length - IntKind.wrap .i64 (i + 1)).toNat < (ns.length - i).toNat := by rw [hw]; omega
                  have hwa : 0 ≤ IntKind.wrap .i64 (i + 1) ∧ IntKind.wrap .i64 (i + 1) ≤ ns.length := by rw [hw]; omega
                  rw [pass1_drop hI0 hx] at hI2
                  have cE : ∀ (f : FuncId) (h : H), (evAll TE (m + 9)).1 f (.fn 21 [] []) [.agg [.sl (nodesA ns) ns.length t, .int .u32 tg], .agg (nodeA x)] h = some (.ret (.bool (entriesS ns x)), h) := fun f h => entries_c (m + 4) f h ns t tg x (hok x hxm).1 (fun e he => (hok x hxm).2.ents e he) (by have := (hok x hxm).2.entsL; omega)
                  have cT : ∀ (f : FuncId) (h : H) (s n : Int), (evAll TE (m + 9)).1 f (.fn 20 [] []) [.agg [.int .u32 s, .int .u32 n]] h = some (.ret (.bool (decide (n < 1000000000))), h) := fun f h s n => timesC_c (m + 8) f h s n
                  have cI : ∀ (f : FuncId) (h : H) (n : Int), (evAll TE (m + 9)).1 f (.fn 14 [] []) [.agg [.sl (nodesA ns) ns.length t, .int .u32 tg], .int .i64 n, .int .u32 2] h = some (.ret (.bool (dirS ns n)), h) := fun f h n => is_c (m + 7) f h ns t tg n 2
                  have hon : onlyS x = true := by
                    unfold anyBad at hq3
                    have := (List.any_eq_false.1 hq3) x hxm
                    simpa using this
                  have hth : (x.kind == 2) = true → entriesS ns x = true → ∀ e ∈ x.ents, thereS ns e.node = true := fun _ h => entries_there h
                  have hno : (x.kind == 2) = false → x.ents = [] := only_list hon
                  have hel : x.ents.length * 32 ≤ 140737488351232 := (hok x hxm).2.entsL
                  obtain ⟨eo, heo⟩ : ∃ b, entriesS ns x = b := ⟨_, rfl⟩
                  have hnb : nodeBad ns tg g x = (decide (x.gen ≥ tg) || (isGen g x.gen || (decide (x.mode > 4095) || (!decide (x.rn < 1000000000) || (!decide (x.wn < 1000000000) || (!decide (x.tn < 1000000000) || (x.kind == 2 && !eo))))))) := by unfold nodeBad; rw [heo]
                  rw [heo] at cE hth
                  unfold nodeA at cE
                  have hxo := (hok x hxm).1
                  have honeL : oneL (nodeA x) = true := nodeA_one hxo
                  have htop : topL (nodeA x) = 0 := nodeA_top0 hxo
                  unfold nodeA at honeL htop
                  clear hon hok heo
                  obtain ⟨kd, ge, mo, us, ng, li, xrs, xrn, xws, xwn, ts, tn, da, by_, vf, ta, ls, es, pa, nx⟩ := x
                  simp only [NodeS.ok, rowOk, entsOk] at hxo
                  obtain ⟨hd3, hd4⟩ := hxo
                  dsimp only at hnb hth hno cE hI2 hel honeL htop
                  cases qk : (kd != 0) with
                  | false =>
                    rw [qk, if_neg (fun h => Bool.noConfusion h), ← hw] at hI2
                    conv => whnf
                    (refine runK_ret (ev_indexSl (sz := 25) rfl rfl rfl rfl hI0 h1) ?_)
                    conv => whnf
                    (refine runK_ret (ev_loadVA (z := 25) rfl rfl rfl hcx hdx) ?_)
                    conv => whnf
                    (refine runK_store (z := 25) rfl rfl rfl rfl honeL rfl rfl rfl (Nat.le_of_ble_eq_true rfl) (.inl rfl) ?_)
                    conv => whnf
                    (refine listK_of (if_pos (Nat.le_trans (Nat.le_of_eq htop) (Nat.zero_le _))) ?_)
                    conv => whnf
                    ((with_reducible cases z0 : kd != Int.ofNat 0) <;> try exact Bool.noConfusion (Eq.trans (Eq.symm z0) qk))
                    conv => whnf
                    (exact ih (IntKind.wrap .i64 (i + 1), g, c) _ ⟨hwa.1, hwa.2, hI3, hI2⟩ hmu (by kernel_rfl))
                  | true =>
                    rw [qk, if_pos rfl, ← hw] at hI2
                    cases bg : isGen g ge with
                    | true =>
                      have hbt : nodeBad ns tg g ⟨kd, ge, mo, us, ng, li, xrs, xrn, xws, xwn, ts, tn, da, by_, vf, ta, ls, es, pa, nx⟩ = true := by rw [hnb, bg, Bool.true_or, Bool.or_true]
                      rw [hbt, if_pos rfl] at hI2
                      obtain ⟨k, hf1, hf2⟩ := gen_some g ge 0 bg
                      have hf3 := hf2 (.int .i64 2)
                      rw [Nat.zero_add] at hf1 hf3
                      clear ih hf2
                      conv => whnf
                      (refine runK_ret (ev_indexSl (sz := 25) rfl rfl rfl rfl hI0 h1) ?_)
                      conv => whnf
                      (refine runK_ret (ev_loadVA (z := 25) rfl rfl rfl hcx hdx) ?_)
                      conv => whnf
                      (refine runK_store (z := 25) rfl rfl rfl rfl honeL rfl rfl rfl (Nat.le_of_ble_eq_true rfl) (.inl rfl) ?_)
                      conv => whnf
                      (refine listK_of (if_pos (Nat.le_trans (Nat.le_of_eq htop) (Nat.zero_le _))) ?_)
                      conv => whnf
                      ((with_reducible cases z0 : kd != Int.ofNat 0) <;> try exact Bool.noConfusion (Eq.trans (Eq.symm z0) qk))
                      conv => whnf
                      (refine yield_K ?_)
                      conv => whnf
                      (refine runK_store (z := 25) rfl rfl rfl rfl honeL rfl rfl rfl (Nat.le_of_ble_eq_true rfl) (.inl rfl) ?_)
                      conv => whnf
                      (refine listK_of (if_pos (Nat.le_trans (Nat.le_of_eq htop) (Nat.zero_le _))) ?_)
                      conv => whnf
                      (refine runK_ret (v := .int .i64 1) (w := .none) (by simp only [hf1]; rfl) ?_)
                      conv => whnf
                      (refine     runK_ret (v := .tup []) (w := .blk 2 (.map ((gensA g).modify k fun e => (e.1, .int .i64 2))))       (by simp only [mapSetA, hf1]; rfl) ?_)
                      conv => whnf
                      (refine listK_of (if_pos (by rw [gmod_top]; exact Nat.zero_le _)) ?_)
                      conv => whnf
                      with_reducible cases z1 : decide (ge ≥ tg)
                      · conv => whnf
                        (refine runK_ret (v := .int .i64 2) (w := .none) (by simp only [hf3]; rfl) ?_)
                        conv => whnf
                        (rw [hI2])
                      · conv => whnf
                        (rw [hI2])
                    | false =>
                      have hf1 := gen_none g ge 0 bg
                      have hf2 := gen_last g ge 0 (.int .i64 1) bg
                      rw [← gensA_app] at hf2
                      have htp := gens_top (g ++ [ge])
                      rw [bg] at hnb
                      obtain ⟨bd, hbd⟩ : ∃ b, nodeBad ns tg g ⟨kd, ge, mo, us, ng, li, xrs, xrn, xws, xwn, ts, tn, da, by_, vf, ta, ls, es, pa, nx⟩ = b := ⟨_, rfl⟩
                      rw [hbd] at hnb hI2
                      have hfa : bd = true → r = false := by
                        intro hb
                        rw [hI2, hb]
                        rfl
                      cases b7 : (kd == 2) with
                      | false =>
                        obtain rfl := hno b7
                        rcases hd4 with ⟨rfl, _⟩ | ⟨lt, rfl⟩
                        · conv => whnf
                          (refine runK_ret (ev_indexSl (sz := 25) rfl rfl rfl rfl hI0 h1) ?_)
                          conv => whnf
                          (refine runK_ret (ev_loadVA (z := 25) rfl rfl rfl hcx hdx) ?_)
                          conv => whnf
                          (refine runK_store (z := 25) rfl rfl rfl rfl honeL rfl rfl rfl (Nat.le_of_ble_eq_true rfl) (.inl rfl) ?_)
                          conv => whnf
                          (refine listK_of (if_pos (Nat.le_trans (Nat.le_of_eq htop) (Nat.zero_le _))) ?_)
                          conv => whnf
                          ((with_reducible cases z0 : kd != Int.ofNat 0) <;> try exact Bool.noConfusion (Eq.trans (Eq.symm z0) qk))
                          conv => whnf
                          (refine yield_K ?_)
                          conv => whnf
                          (refine runK_store (z := 25) rfl rfl rfl rfl honeL rfl rfl rfl (Nat.le_of_ble_eq_true rfl) (.inl rfl) ?_)
                          conv => whnf
                          (refine listK_of (if_pos (Nat.le_trans (Nat.le_of_eq htop) (Nat.zero_le _))) ?_)
                          conv => whnf
                          (refine runK_ret (v := .int .i64 0) (w := .none) (by simp only [hf1]; rfl) ?_)
                          conv => whnf
                          (refine     runK_ret (v := .tup []) (w := .blk 2 (.map (gensA (g ++ [ge])))) (by simp only [mapSetA, hf1, gensA_app]; rfl) ?_)
                          conv => whnf
                          (refine listK_of (if_pos (by rw [map_top htp.1 htp.2]; exact Nat.zero_le _)) ?_)
                          conv => whnf
                          with_reducible cases z1 : decide (ge ≥ tg)
                          · conv => whnf
                            (refine runK_ret (v := .int .i64 1) (w := .none) (by simp only [hf2]; rfl) ?_)
                            conv => whnf
                            with_reducible cases z2 : decide (mo > Int.ofNat 4095)
                            · conv => whnf
                              with_reducible refine ⟨_, _, cT _ _ _ _, ?_⟩
                              conv => whnf
                              with_reducible cases z3 : decide (xrn < Int.ofNat 1000000000)
                              · conv => whnf
                                (rw [hfa (by clear ih; rw [hnb]; simp_all)])
                              · conv => whnf
                                with_reducible refine ⟨_, _, cT _ _ _ _, ?_⟩
                                conv => whnf
                                with_reducible cases z4 : decide (xwn < Int.ofNat 1000000000)
                                · conv => whnf
                                  (rw [hfa (by clear ih; rw [hnb]; simp_all)])
                                · conv => whnf
                                  with_reducible refine ⟨_, _, cT _ _ _ _, ?_⟩
                                  conv => whnf
                                  with_reducible cases z5 : decide (tn < Int.ofNat 1000000000)
                                  · conv => whnf
                                    (rw [hfa (by clear ih; rw [hnb]; simp_all)])
                                  · conv => whnf
                                    ((with_reducible cases z6 : kd == Int.ofNat 2) <;> try exact Bool.noConfusion (Eq.trans (Eq.symm z6) b7))
                                    conv => whnf
                                    have hbf : bd = false := by clear ih; rw [hnb]; simp_all
                                    rw [hbf, if_neg (fun h => Bool.noConfusion h)] at hI2
                                    rw [cntE] at hI2
                                    refine ⟨1, Nat.le_of_ble_eq_true rfl, ?_⟩
                                    conv => whnf
                                    (exact ih (IntKind.wrap .i64 (i + 1), g ++ [ge], c) _ ⟨hwa.1, hwa.2, hI3, hI2⟩ hmu (by kernel_rfl))
                            · conv => whnf
                              (rw [hfa (by clear ih; rw [hnb]; simp_all)])
                          · conv => whnf
                            (rw [hfa (by clear ih; rw [hnb]; simp_all)])
                        · conv => whnf
                          (refine runK_ret (ev_indexSl (sz := 25) rfl rfl rfl rfl hI0 h1) ?_)
                          conv => whnf
                          (refine runK_ret (ev_loadVA (z := 25) rfl rfl rfl hcx hdx) ?_)
                          conv => whnf
                          (refine runK_store (z := 25) rfl rfl rfl rfl honeL rfl rfl rfl (Nat.le_of_ble_eq_true rfl) (.inl rfl) ?_)
                          conv => whnf
                          (refine listK_of (if_pos (Nat.le_trans (Nat.le_of_eq htop) (Nat.zero_le _))) ?_)
                          conv => whnf
                          ((with_reducible cases z0 : kd != Int.ofNat 0) <;> try exact Bool.noConfusion (Eq.trans (Eq.symm z0) qk))
                          conv => whnf
                          (refine yield_K ?_)
                          conv => whnf
                          (refine runK_store (z := 25) rfl rfl rfl rfl honeL rfl rfl rfl (Nat.le_of_ble_eq_true rfl) (.inl rfl) ?_)
                          conv => whnf
                          (refine listK_of (if_pos (Nat.le_trans (Nat.le_of_eq htop) (Nat.zero_le _))) ?_)
                          conv => whnf
                          (refine runK_ret (v := .int .i64 0) (w := .none) (by simp only [hf1]; rfl) ?_)
                          conv => whnf
                          (refine     runK_ret (v := .tup []) (w := .blk 2 (.map (gensA (g ++ [ge])))) (by simp only [mapSetA, hf1, gensA_app]; rfl) ?_)
                          conv => whnf
                          (refine listK_of (if_pos (by rw [map_top htp.1 htp.2]; exact Nat.zero_le _)) ?_)
                          conv => whnf
                          with_reducible cases z1 : decide (ge ≥ tg)
                          · conv => whnf
                            (refine runK_ret (v := .int .i64 1) (w := .none) (by simp only [hf2]; rfl) ?_)
                            conv => whnf
                            with_reducible cases z2 : decide (mo > Int.ofNat 4095)
                            · conv => whnf
                              with_reducible refine ⟨_, _, cT _ _ _ _, ?_⟩
                              conv => whnf
                              with_reducible cases z3 : decide (xrn < Int.ofNat 1000000000)
                              · conv => whnf
                                (rw [hfa (by clear ih; rw [hnb]; simp_all)])
                              · conv => whnf
                                with_reducible refine ⟨_, _, cT _ _ _ _, ?_⟩
                                conv => whnf
                                with_reducible cases z4 : decide (xwn < Int.ofNat 1000000000)
                                · conv => whnf
                                  (rw [hfa (by clear ih; rw [hnb]; simp_all)])
                                · conv => whnf
                                  with_reducible refine ⟨_, _, cT _ _ _ _, ?_⟩
                                  conv => whnf
                                  with_reducible cases z5 : decide (tn < Int.ofNat 1000000000)
                                  · conv => whnf
                                    (rw [hfa (by clear ih; rw [hnb]; simp_all)])
                                  · conv => whnf
                                    ((with_reducible cases z6 : kd == Int.ofNat 2) <;> try exact Bool.noConfusion (Eq.trans (Eq.symm z6) b7))
                                    conv => whnf
                                    have hbf : bd = false := by clear ih; rw [hnb]; simp_all
                                    rw [hbf, if_neg (fun h => Bool.noConfusion h)] at hI2
                                    rw [cntE] at hI2
                                    refine ⟨1, Nat.le_of_ble_eq_true rfl, ?_⟩
                                    conv => whnf
                                    (exact ih (IntKind.wrap .i64 (i + 1), g ++ [ge], c) _ ⟨hwa.1, hwa.2, hI3, hI2⟩ hmu (by kernel_rfl))
                            · conv => whnf
                              (rw [hfa (by clear ih; rw [hnb]; simp_all)])
                          · conv => whnf
                            (rw [hfa (by clear ih; rw [hnb]; simp_all)])
                      | true =>
                        rcases hd4 with ⟨rfl, rfl⟩ | ⟨lt, rfl⟩
                        · conv => whnf
                          (refine runK_ret (ev_indexSl (sz := 25) rfl rfl rfl rfl hI0 h1) ?_)
                          conv => whnf
                          (refine runK_ret (ev_loadVA (z := 25) rfl rfl rfl hcx hdx) ?_)
                          conv => whnf
                          (refine runK_store (z := 25) rfl rfl rfl rfl honeL rfl rfl rfl (Nat.le_of_ble_eq_true rfl) (.inl rfl) ?_)
                          conv => whnf
                          (refine listK_of (if_pos (Nat.le_trans (Nat.le_of_eq htop) (Nat.zero_le _))) ?_)
                          conv => whnf
                          ((with_reducible cases z0 : kd != Int.ofNat 0) <;> try exact Bool.noConfusion (Eq.trans (Eq.symm z0) qk))
                          conv => whnf
                          (refine yield_K ?_)
                          conv => whnf
                          (refine runK_store (z := 25) rfl rfl rfl rfl honeL rfl rfl rfl (Nat.le_of_ble_eq_true rfl) (.inl rfl) ?_)
                          conv => whnf
                          (refine listK_of (if_pos (Nat.le_trans (Nat.le_of_eq htop) (Nat.zero_le _))) ?_)
                          conv => whnf
                          (refine runK_ret (v := .int .i64 0) (w := .none) (by simp only [hf1]; rfl) ?_)
                          conv => whnf
                          (refine     runK_ret (v := .tup []) (w := .blk 2 (.map (gensA (g ++ [ge])))) (by simp only [mapSetA, hf1, gensA_app]; rfl) ?_)
                          conv => whnf
                          (refine listK_of (if_pos (by rw [map_top htp.1 htp.2]; exact Nat.zero_le _)) ?_)
                          conv => whnf
                          with_reducible cases z1 : decide (ge ≥ tg)
                          · conv => whnf
                            (refine runK_ret (v := .int .i64 1) (w := .none) (by simp only [hf2]; rfl) ?_)
                            conv => whnf
                            with_reducible cases z2 : decide (mo > Int.ofNat 4095)
                            · conv => whnf
                              with_reducible refine ⟨_, _, cT _ _ _ _, ?_⟩
                              conv => whnf
                              with_reducible cases z3 : decide (xrn < Int.ofNat 1000000000)
                              · conv => whnf
                                (rw [hfa (by clear ih; rw [hnb]; simp_all)])
                              · conv => whnf
                                with_reducible refine ⟨_, _, cT _ _ _ _, ?_⟩
                                conv => whnf
                                with_reducible cases z4 : decide (xwn < Int.ofNat 1000000000)
                                · conv => whnf
                                  (rw [hfa (by clear ih; rw [hnb]; simp_all)])
                                · conv => whnf
                                  with_reducible refine ⟨_, _, cT _ _ _ _, ?_⟩
                                  conv => whnf
                                  with_reducible cases z5 : decide (tn < Int.ofNat 1000000000)
                                  · conv => whnf
                                    (rw [hfa (by clear ih; rw [hnb]; simp_all)])
                                  · conv => whnf
                                    ((with_reducible cases z6 : kd == Int.ofNat 2) <;> try exact Bool.noConfusion (Eq.trans (Eq.symm z6) b7))
                                    conv => whnf
                                    with_reducible refine ⟨_, _, cE _ _, ?_⟩
                                    conv => whnf
                                    cases eo
                                    · conv => whnf
                                      (rw [hfa (by clear ih; rw [hnb]; simp_all)])
                                    · conv => whnf
                                      have hbf : bd = false := by clear ih; rw [hnb]; simp_all
                                      rw [hbf, if_neg (fun h => Bool.noConfusion h)] at hI2
                                      rw [cntE] at hI2
                                      refine ⟨1, Nat.le_of_ble_eq_true rfl, ?_⟩
                                      conv => whnf
                                      (exact ih (IntKind.wrap .i64 (i + 1), g ++ [ge], c) _ ⟨hwa.1, hwa.2, hI3, hI2⟩ hmu (by kernel_rfl))
                            · conv => whnf
                              (rw [hfa (by clear ih; rw [hnb]; simp_all)])
                          · conv => whnf
                            (rw [hfa (by clear ih; rw [hnb]; simp_all)])
                        · conv => whnf
                          (refine runK_ret (ev_indexSl (sz := 25) rfl rfl rfl rfl hI0 h1) ?_)
                          conv => whnf
                          (refine runK_ret (ev_loadVA (z := 25) rfl rfl rfl hcx hdx) ?_)
                          conv => whnf
                          (refine runK_store (z := 25) rfl rfl rfl rfl honeL rfl rfl rfl (Nat.le_of_ble_eq_true rfl) (.inl rfl) ?_)
                          conv => whnf
                          (refine listK_of (if_pos (Nat.le_trans (Nat.le_of_eq htop) (Nat.zero_le _))) ?_)
                          conv => whnf
                          ((with_reducible cases z0 : kd != Int.ofNat 0) <;> try exact Bool.noConfusion (Eq.trans (Eq.symm z0) qk))
                          conv => whnf
                          (refine yield_K ?_)
                          conv => whnf
                          (refine runK_store (z := 25) rfl rfl rfl rfl honeL rfl rfl rfl (Nat.le_of_ble_eq_true rfl) (.inl rfl) ?_)
                          conv => whnf
                          (refine listK_of (if_pos (Nat.le_trans (Nat.le_of_eq htop) (Nat.zero_le _))) ?_)
                          conv => whnf
                          (refine runK_ret (v := .int .i64 0) (w := .none) (by simp only [hf1]; rfl) ?_)
                          conv => whnf
                          (refine     runK_ret (v := .tup []) (w := .blk 2 (.map (gensA (g ++ [ge])))) (by simp only [mapSetA, hf1, gensA_app]; rfl) ?_)
                          conv => whnf
                          (refine listK_of (if_pos (by rw [map_top htp.1 htp.2]; exact Nat.zero_le _)) ?_)
                          conv => whnf
                          with_reducible cases z1 : decide (ge ≥ tg)
                          · conv => whnf
                            (refine runK_ret (v := .int .i64 1) (w := .none) (by simp only [hf2]; rfl) ?_)
                            conv => whnf
                            with_reducible cases z2 : decide (mo > Int.ofNat 4095)
                            · conv => whnf
                              with_reducible refine ⟨_, _, cT _ _ _ _, ?_⟩
                              conv => whnf
                              with_reducible cases z3 : decide (xrn < Int.ofNat 1000000000)
                              · conv => whnf
                                (rw [hfa (by clear ih; rw [hnb]; simp_all)])
                              · conv => whnf
                                with_reducible refine ⟨_, _, cT _ _ _ _, ?_⟩
                                conv => whnf
                                with_reducible cases z4 : decide (xwn < Int.ofNat 1000000000)
                                · conv => whnf
                                  (rw [hfa (by clear ih; rw [hnb]; simp_all)])
                                · conv => whnf
                                  with_reducible refine ⟨_, _, cT _ _ _ _, ?_⟩
                                  conv => whnf
                                  with_reducible cases z5 : decide (tn < Int.ofNat 1000000000)
                                  · conv => whnf
                                    (rw [hfa (by clear ih; rw [hnb]; simp_all)])
                                  · conv => whnf
                                    ((with_reducible cases z6 : kd == Int.ofNat 2) <;> try exact Bool.noConfusion (Eq.trans (Eq.symm z6) b7))
                                    conv => whnf
                                    with_reducible refine ⟨_, _, cE _ _, ?_⟩
                                    conv => whnf
                                    cases eo
                                    · conv => whnf
                                      (rw [hfa (by clear ih; rw [hnb]; simp_all)])
                                    · conv => whnf
                                      have hbf : bd = false := by clear ih; rw [hnb]; simp_all
                                      rw [hbf, if_neg (fun h => Bool.noConfusion h)] at hI2
                                      refine ⟨es.length + 1, by show es.length + 1 ≤ 4611686018427387904; omega, ?_⟩
                                      refine rounds_at (fun s (a : Int × Cnt) => ⟨RG.of 210 [(120, .int .i64 a.1), (119, .int .i64 es.length), (118, .sl (entriesA es) es.length lt), (8, .int .i64 i), (7, .ref 12 0 0), (6, .ref 11 0 0), (5, .ref 10 0 0), (1, .ref 0 0 0)], ⟨(((s.h.bs.set 4 (.cells (numsA .i64 a.2.named) ⟨true, 1, false, true⟩)).set 6 (.cells (numsA .i64 a.2.subs) ⟨true, 1, false, true⟩)).set 8 (.cells (numsA .i64 a.2.home) ⟨true, 1, false, true⟩)), s.h.esc⟩⟩) (fun a => 0 ≤ a.1 ∧ a.1 ≤ es.length ∧ a.2.len ns.length ∧ cntE ns i c es = cntE ns i a.2 (es.drop a.1.toNat)) (fun a => (es.length - a.1).toNat) _ (0, c) ⟨by simp only; omega, by simp only; omega, hI3, rfl⟩ (by simp only; omega) (by kernel_rfl) ?_
                                      intro a m'' hJ ih2
                                      obtain ⟨j, c'⟩ := a
                                      dsimp only at hJ ih2 ⊢
                                      obtain ⟨hJ0, hJ1, hJ3, hJ2⟩ := hJ
                                      conv => whnf
                                      cases h3 : decide (j < (es.length : Int)) with
                                      | false =>
                                        have h3 := of_decide_eq_false h3
                                        rw [List.drop_eq_nil_of_le (by omega), cntE] at hJ2
                                        rw [hJ2] at hI2
                                        clear ih2
                                        conv => whnf
                                        (exact ih (IntKind.wrap .i64 (i + 1), g ++ [ge], c') _ ⟨hwa.1, hwa.2, hJ3, hI2⟩ hmu (by kernel_rfl))
                                      | true =>
                                        have h3 := of_decide_eq_true h3
                                        clear ih hI2
                                        obtain ⟨e, he⟩ : ∃ e, es[j.toNat]? = some e := ⟨_, List.getElem?_eq_getElem (by omega)⟩
                                        have hce : j.toNat * 3 + 3 ≤ (entriesA es).length := by rw [entriesA_len]; omega
                                        have hde := entriesA_entry he
                                        have hte2 := hth b7 rfl e (List.mem_of_getElem? he)
                                        rw [cntE_drop he] at hJ2
                                        have hwj : IntKind.wrap .i64 (j + 1) = j + 1 := wrap64 (by omega) (by omega)
                                        have hmj : (es.length - IntKind.wrap .i64 (j + 1)).toNat < (es.length - j).toNat := by rw [hwj]; omega
                                        have hwb : 0 ≤ IntKind.wrap .i64 (j + 1) ∧ IntKind.wrap .i64 (j + 1) ≤ es.length := by rw [hwj]; omega
                                        rw [show j.toNat + 1 = (IntKind.wrap .i64 (j + 1)).toNat by rw [hwj]; omega] at hJ2
                                        have hl3 := stepE_len (ns := ns) (i := i) (e := e) hJ3
                                        obtain ⟨n1, n2, n3⟩ := hJ3
                                        unfold thereS at hte2
                                        rw [Bool.and_eq_true, Bool.and_eq_true, decide_eq_true_eq, decide_eq_true_eq] at hte2
                                        have he0 : 0 ≤ e.node := by omega
                                        have he1 : e.node < ns.length := hte2.2.1
                                        have hN : e.node.toNat < c'.named.length := by omega
                                        have hH : e.node.toNat < c'.home.length := by omega
                                        have hS : i.toNat < c'.subs.length := by omega
                                        clear hte2
                                        have cJ := fun f h => cI f h e.node
                                        obtain ⟨xa, xb, xc⟩ := e
                                        unfold stepE at hJ2 hl3
                                        dsimp only at cJ hJ2 hl3 he0 he1 hN hH
                                        cases qd : dirS ns xb with
                                        | false =>
                                          rw [qd] at cJ
                                          rw [qd, if_neg (fun h => Bool.noConfusion h)] at hJ2 hl3
                                          conv => whnf
                                          (refine runK_ret (ev_indexSl (sz := 3) rfl rfl rfl rfl hJ0 h3) ?_)
                                          conv => whnf
                                          (refine runK_ret (ev_loadVA (z := 3) rfl rfl rfl hce hde) ?_)
                                          conv => whnf
                                          (refine runK_ret (ev_indexRsl (sz := 1) rfl rfl rfl rfl he0 he1) ?_)
                                          conv => whnf
                                          (refine runK_if rfl (runK_cell rfl (ints_get (l := c'.named) (k := xb.toNat) hN) (runK_ret rfl ?_)))
                                          conv => whnf
                                          (refine runK_ret (ev_indexRsl (sz := 1) rfl rfl rfl rfl he0 he1) ?_)
                                          conv => whnf
                                          (refine     runK_if ⟨rfl, rfl, (by show 0 + xb.toNat * 1 + 1 ≤ (numsA .i64 c'.named).length; rw [ints_len]; omega), .inr rfl⟩       ?_)
                                          conv => whnf
                                          (refine listK_of (ints_put (l := c'.named) (k := xb.toNat) hN) ?_)
                                          conv => whnf
                                          (refine runK_ret (ev_indexRsl (sz := 1) rfl rfl rfl rfl he0 he1) ?_)
                                          conv => whnf
                                          (refine     runK_if ⟨rfl, rfl, (by show 0 + xb.toNat * 1 + 1 ≤ (numsA .i64 c'.home).length; rw [ints_len]; omega), .inr rfl⟩ ?_)
                                          conv => whnf
                                          (refine listK_of (ints_put (l := c'.home) (k := xb.toNat) hH) ?_)
                                          conv => whnf
                                          with_reducible refine ⟨_, _, cJ _ _, ?_⟩
                                          conv => whnf
                                          (exact     ih2 (IntKind.wrap .i64 (j + 1), ⟨bump c'.named xb, c'.subs, c'.home.set xb.toNat i⟩) _ ⟨hwb.1, hwb.2, hl3, hJ2⟩ hmj       (by kernel_rfl))
                                        | true =>
                                          rw [qd] at cJ
                                          rw [qd, if_pos rfl] at hJ2 hl3
                                          conv => whnf
                                          (refine runK_ret (ev_indexSl (sz := 3) rfl rfl rfl rfl hJ0 h3) ?_)
                                          conv => whnf
                                          (refine runK_ret (ev_loadVA (z := 3) rfl rfl rfl hce hde) ?_)
                                          conv => whnf
                                          (refine runK_ret (ev_indexRsl (sz := 1) rfl rfl rfl rfl he0 he1) ?_)
                                          conv => whnf
                                          (refine runK_if rfl (runK_cell rfl (ints_get (l := c'.named) (k := xb.toNat) hN) (runK_ret rfl ?_)))
                                          conv => whnf
                                          (refine runK_ret (ev_indexRsl (sz := 1) rfl rfl rfl rfl he0 he1) ?_)
                                          conv => whnf
                                          (refine     runK_if ⟨rfl, rfl, (by show 0 + xb.toNat * 1 + 1 ≤ (numsA .i64 c'.named).length; rw [ints_len]; omega), .inr rfl⟩       ?_)
                                          conv => whnf
                                          (refine listK_of (ints_put (l := c'.named) (k := xb.toNat) hN) ?_)
                                          conv => whnf
                                          (refine runK_ret (ev_indexRsl (sz := 1) rfl rfl rfl rfl he0 he1) ?_)
                                          conv => whnf
                                          (refine     runK_if ⟨rfl, rfl, (by show 0 + xb.toNat * 1 + 1 ≤ (numsA .i64 c'.home).length; rw [ints_len]; omega), .inr rfl⟩ ?_)
                                          conv => whnf
                                          (refine listK_of (ints_put (l := c'.home) (k := xb.toNat) hH) ?_)
                                          conv => whnf
                                          with_reducible refine ⟨_, _, cJ _ _, ?_⟩
                                          conv => whnf
                                          (refine runK_ret (ev_indexRsl (sz := 1) rfl rfl rfl rfl hI0 h1) ?_)
                                          conv => whnf
                                          (refine runK_if rfl (runK_cell rfl (ints_get (l := c'.subs) (k := i.toNat) hS) (runK_ret rfl ?_)))
                                          conv => whnf
                                          (refine runK_ret (ev_indexRsl (sz := 1) rfl rfl rfl rfl hI0 h1) ?_)
                                          conv => whnf
                                          (refine     runK_if ⟨rfl, rfl, (by show 0 + i.toNat * 1 + 1 ≤ (numsA .i64 c'.subs).length; rw [ints_len]; omega), .inr rfl⟩ ?_)
                                          conv => whnf
                                          (refine listK_of (ints_put (l := c'.subs) (k := i.toNat) hS) ?_)
                                          conv => whnf
                                          (exact     ih2 (IntKind.wrap .i64 (j + 1), ⟨bump c'.named xb, (bump c'.subs i), c'.home.set xb.toNat i⟩) _       ⟨hwb.1, hwb.2, hl3, hJ2⟩ hmj (by kernel_rfl))
                            · conv => whnf
                              (rw [hfa (by clear ih; rw [hnb]; simp_all)])
                          · conv => whnf
                            (rw [hfa (by clear ih; rw [hnb]; simp_all)])
end Go.Proofs.Ytnfkpnfafekflaa.Ab
/- Over the engine: no tree of no nodes. -/
namespace Go.Proofs.Ytnfkpnfafekflaa.Ab
open Go Go.RowKit

set_option maxRecDepth 100000
theorem check_nil (m : Nat) (from_ : FuncId) (h : H) (tg : Int) : evCall TE (m + 12) from_ (.fn 6 [] []) [.agg [.sl0, .int .u32 tg]] h = some (.ret (.bool false), h) := by
  refine call_clean (fn := Try.f6) rfl Try.func6 rfl rfl rfl rfl rfl (Nat.le_of_ble_eq_true rfl) ?_
  conv => whnf
end Go.Proofs.Ytnfkpnfafekflaa.Ab
/- Over the engine: the chapters' closed examples. -/
namespace Go.Proofs.Ytnfkpnfafekflaa.Ab
open Go Go.RowKit

set_option maxRecDepth 100000
theorem lives14_c (n : Nat) (from_ : FuncId) (h : H) : evCall TE (n + 50) from_ (.fn 7 [] []) [] h = some (.ret (.bool true), h) := by
  skip
  kernel_rfl
end Go.Proofs.Ytnfkpnfafekflaa.Ab
/- Over the engine: the law NodesFound. -/
namespace Go.Proofs.Ytnfkpnfafekflaa.Ab
open Go Go.RowKit

set_option maxRecDepth 100000
theorem toBytes_nums : ∀ l : List Int, toBytes (numsA .u8 l) = some (keyS l)
  | [] => rfl
  | b :: r => by
    show (toBytes (numsA .u8 r)).map (UInt8.ofNat b.toNat :: ·) = _
    rw [toBytes_nums r]
    rfl
section
variable {P : Program} {flat : TypeId → Option (List Nat)} {nid : Nat} {ρ : Operand → AV}
/-- Bytes as a text. -/
theorem ev_convStr {s d e : TypeId} {x : Operand} {l : List Int} {n : Nat} {t : Bool} (hs : P.underlying s = some (.slice e)) (hd : P.underlying d = some .string) (he : P.underlying e = some (.int .u8)) (hx : ρ x = .sl (numsA .u8 l) n t) (hn : l.length = n) : evOp P flat nid (.convert s d x) ρ = .ret (.str (keyS l), .none) := by
  have hl : (numsA .u8 l).length = n * 1 := by simp [numsA, hn]
  simp only [evOp, convertA, hs, hd, hx, he, lenOfA, sliceCells]
  rw [if_pos ⟨Nat.le_refl _, by omega⟩, if_pos ⟨trivial, hl⟩, toBytes_nums]
end
theorem great14_c (m : Nat) (t : TreeS) (ht : t.ok) : ∃ g, ∀ (f : FuncId) (h : H), evCall TE (m + 5) f (.fn 5 [] []) [treeA t] h = some (.ret (.bool g), h) := by
  obtain ⟨_, ⟨r, rfl, _, _⟩, hc⟩ := treeSize_c m t ht
  obtain ⟨g, hg⟩ : ∃ g, g = (decide (r > 60000) || decide ((t.ns.length : Int) > 1300)) := ⟨_, rfl⟩
  refine ⟨g, fun f h => ?_⟩
  have c1 : ∀ (f : FuncId) (h : H), (evAll TE (m + 4)).1 f (.fn 13 [] []) [treeA t] h = some (.ret (.int .i64 r), h) := fun f h => hc f h
  have hv := ht.v
  clear ht hc
  obtain ⟨v, ns, gen⟩ := t
  unfold treeA at c1 ⊢
  dsimp only at c1 hv hg ⊢
  rcases hv with ⟨rfl, rfl⟩ | ⟨t, rfl⟩
  · refine call_clean (fn := Try.f5) rfl Try.func5 rfl rfl rfl rfl rfl (Nat.le_of_ble_eq_true rfl) ?_
    conv => whnf
    with_reducible refine ⟨_, _, c1 _ _, ?_⟩
    conv => whnf
    with_reducible cases z0 : decide (r > Int.ofNat 60000)
    · conv => whnf
      (rw [hg]; simp_all; done)
    · conv => whnf
      (rw [hg]; simp_all; done)
  · refine call_clean (fn := Try.f5) rfl Try.func5 rfl rfl rfl rfl rfl (Nat.le_of_ble_eq_true rfl) ?_
    conv => whnf
    with_reducible refine ⟨_, _, c1 _ _, ?_⟩
    conv => whnf
    with_reducible cases z0 : decide (r > Int.ofNat 60000)
    · conv => whnf
      (rw [hg]; simp_all; omega)
    · conv => whnf
      (rw [hg]; simp_all; done)
theorem found_great (m : Nat) (from_ : FuncId) (h : H) (v : AV) (ns : List NodeS) (hv : nodesOk v ns) (gen : Int) (hG : ∀ (f : FuncId) (h : H), evCall TE (m + 59) f (.fn 5 [] []) [.agg [v, .int .u32 gen]] h = some (.ret (.bool true), h)) : evCall TE (m + 60) from_ (.fn 3 [] []) [.agg [v, .int .u32 gen]] h = some (.ret (.bool true), h) := by
  have cG : ∀ (f : FuncId) (h : H), (evAll TE (m + 59)).1 f (.fn 5 [] []) [.agg [v, .int .u32 gen]] h = some (.ret (.bool true), h) := hG
  have cL : ∀ (f : FuncId) (h : H), (evAll TE (m + 59)).1 f (.fn 7 [] []) [] h = some (.ret (.bool true), h) := fun f h => lives14_c (m + 9) f h
  rcases hv with ⟨rfl, rfl⟩ | ⟨t, rfl⟩
  · refine call_clean (fn := Try.f3) rfl Try.func3 rfl rfl rfl rfl rfl (Nat.le_of_ble_eq_true rfl) ?_
    conv => whnf
    with_reducible refine ⟨_, _, cG _ _, ?_⟩
    conv => whnf
    with_reducible refine ⟨_, _, cL _ _, ?_⟩
    conv => whnf
  · refine call_clean (fn := Try.f3) rfl Try.func3 rfl rfl rfl rfl rfl (Nat.le_of_ble_eq_true rfl) ?_
    conv => whnf
    with_reducible refine ⟨_, _, cG _ _, ?_⟩
    conv => whnf
    with_reducible refine ⟨_, _, cL _ _, ?_⟩
    conv => whnf
theorem found_nil (m : Nat) (from_ : FuncId) (h : H) (gen : Int) (hG : ∀ (f : FuncId) (h : H), evCall TE (m + 59) f (.fn 5 [] []) [.agg [.sl0, .int .u32 gen]] h = some (.ret (.bool false), h)) : evCall TE (m + 60) from_ (.fn 3 [] []) [.agg [.sl0, .int .u32 gen]] h = some (.ret (.bool true), h) := by
  have cG : ∀ (f : FuncId) (h : H), (evAll TE (m + 59)).1 f (.fn 5 [] []) [.agg [.sl0, .int .u32 gen]] h = some (.ret (.bool false), h) := hG
  have cK : ∀ (f : FuncId) (h : H), (evAll TE (m + 59)).1 f (.fn 6 [] []) [.agg [.sl0, .int .u32 gen]] h = some (.ret (.bool false), h) := fun f h => check_nil (m + 47) f h gen
  have cL : ∀ (f : FuncId) (h : H), (evAll TE (m + 59)).1 f (.fn 7 [] []) [] h = some (.ret (.bool true), h) := fun f h => lives14_c (m + 9) f h
  refine call_clean (fn := Try.f3) rfl Try.func3 rfl rfl rfl rfl rfl (Nat.le_of_ble_eq_true rfl) ?_
  conv => whnf
  with_reducible refine ⟨_, _, cG _ _, ?_⟩
  conv => whnf
  with_reducible refine ⟨_, _, cK _ _, ?_⟩
  conv => whnf
  with_reducible refine ⟨_, _, cL _ _, ?_⟩
  conv => whnf
theorem found_not (m : Nat) (from_ : FuncId) (h : H) (ns : List NodeS) (t : Bool) (gen : Int) (hG : ∀ (f : FuncId) (h : H), evCall TE (m + 59) f (.fn 5 [] []) [.agg [.sl (nodesA ns) ns.length t, .int .u32 gen]] h = some (.ret (.bool false), h)) (hK : ∀ (f : FuncId) (h : H), evCall TE (m + 59) f (.fn 6 [] []) [.agg [.sl (nodesA ns) ns.length t, .int .u32 gen]] h = some (.ret (.bool false), h)) : evCall TE (m + 60) from_ (.fn 3 [] []) [.agg [.sl (nodesA ns) ns.length t, .int .u32 gen]] h = some (.ret (.bool true), h) := by
  have cG : ∀ (f : FuncId) (h : H), (evAll TE (m + 59)).1 f (.fn 5 [] []) [.agg [.sl (nodesA ns) ns.length t, .int .u32 gen]] h = some (.ret (.bool false), h) := hG
  have cK : ∀ (f : FuncId) (h : H), (evAll TE (m + 59)).1 f (.fn 6 [] []) [.agg [.sl (nodesA ns) ns.length t, .int .u32 gen]] h = some (.ret (.bool false), h) := hK
  have cL : ∀ (f : FuncId) (h : H), (evAll TE (m + 59)).1 f (.fn 7 [] []) [] h = some (.ret (.bool true), h) := fun f h => lives14_c (m + 9) f h
  refine call_clean (fn := Try.f3) rfl Try.func3 rfl rfl rfl rfl rfl (Nat.le_of_ble_eq_true rfl) ?_
  conv => whnf
  with_reducible refine ⟨_, _, cG _ _, ?_⟩
  conv => whnf
  with_reducible cases z0 : decide ((↑ns.length : Int) > Int.ofNat 200)
  · conv => whnf
    with_reducible refine ⟨_, _, cK _ _, ?_⟩
    conv => whnf
    with_reducible refine ⟨_, _, cL _ _, ?_⟩
    conv => whnf
  · conv => whnf
    with_reducible refine ⟨_, _, cL _ _, ?_⟩
    conv => whnf
set_option maxHeartbeats 8000000 in
theorem found_ok (m : Nat) (from_ : FuncId) (h : H) (ns : List NodeS) (t : Bool) (gen : Int) (hG : ∀ (f : FuncId) (h : H), evCall TE (m + 59) f (.fn 5 [] []) [.agg [.sl (nodesA ns) ns.length t, .int .u32 gen]] h = some (.ret (.bool false), h)) (hK : ∀ (f : FuncId) (h : H), evCall TE (m + 59) f (.fn 6 [] []) [.agg [.sl (nodesA ns) ns.length t, .int .u32 gen]] h = some (.ret (.bool true), h))
    (hok : ∀ x ∈ ns, x.ok ∧ x.ents.length ≤ 140737488351232) (hlen : ns.length ≤ 1025) (hz : ∀ x, ns[(0 : Int).toNat]? = some x → (x.kind != 0) = false)
    (hN : ∀ n : Nat, thereS ns n = true → isNamed (keysTo ns n) (keyS (handleK ns n)) = false)
    (hH0 : ∀ (n : Nat) (f : FuncId) (h : H), thereS ns n = false → evCall TE (m + 59) f (.fn 8 [] []) [.agg [.sl (nodesA ns) ns.length t, .int .u32 gen], .int .i64 n] h = some (.ret (.tup [.sl0, .int .i64 1]), h))
    (hH : ∀ (n : Nat) (f : FuncId) (h : H), thereS ns n = true → evCall TE (m + 59) f (.fn 8 [] []) [.agg [.sl (nodesA ns) ns.length t, .int .u32 gen], .int .i64 n] h = some (.ret (.tup [.sl (numsA .u8 (handleK ns n)) 16 false, .int .i64 0]), h))
    (hA0 : ∀ (n : Nat) (f : FuncId) (h : H), thereS ns n = false → evCall TE (m + 59) f (.fn 9 [] []) [.agg [.sl (nodesA ns) ns.length t, .int .u32 gen], .int .i64 n] h = some (.ret (.tup [.agg attrs0, .bool false]), h))
    (hA : ∀ (n : Nat) (x : NodeS) (f : FuncId) (h : H), thereS ns n = true → ns[n]? = some x → evCall TE (m + 59) f (.fn 9 [] []) [.agg [.sl (nodesA ns) ns.length t, .int .u32 gen], .int .i64 n] h = some (.ret (.tup [.agg (attrsS x n), .bool true]), h))
    (hF : ∀ (n : Nat) (f : FuncId) (h : H), thereS ns n = true → evCall TE (m + 59) f (.fn 10 [] []) [.agg [.sl (nodesA ns) ns.length t, .int .u32 gen], .sl (numsA .u8 (handleK ns n)) 16 false] h = some (.ret (.tup [.int .i64 n, .int .u32 0]), h))
    (hW : ∀ (n : Nat) (x : NodeS) (f : FuncId) (h : H), thereS ns n = true → ns[n]? = some x → (x.kind == 2) = true → evCall TE (m + 59) f (.fn 11 [] []) [.agg [.sl (nodesA ns) ns.length t, .int .u32 gen], .int .i64 n, .int .i64 1] h = some (.ret (.bool true), h))
    (hE : ∀ (n : Nat) (x : NodeS) (e : EntryS) (f : FuncId) (h : H), thereS ns n = true → ns[n]? = some x → e ∈ x.ents → evCall TE (m + 59) f (.fn 12 [] []) [.agg [.sl (nodesA ns) ns.length t, .int .u32 gen], .int .i64 n, .str e.name] h = some (.ret (.int .i64 e.node), h)) : evCall TE (m + 60) from_ (.fn 3 [] []) [.agg [.sl (nodesA ns) ns.length t, .int .u32 gen]] h = some (.ret (.bool true), h) := by
  have cG : ∀ (f : FuncId) (h : H), (evAll TE (m + 59)).1 f (.fn 5 [] []) [.agg [.sl (nodesA ns) ns.length t, .int .u32 gen]] h = some (.ret (.bool false), h) := hG
  have cK : ∀ (f : FuncId) (h : H), (evAll TE (m + 59)).1 f (.fn 6 [] []) [.agg [.sl (nodesA ns) ns.length t, .int .u32 gen]] h = some (.ret (.bool true), h) := hK
  have cL : ∀ (f : FuncId) (h : H), (evAll TE (m + 59)).1 f (.fn 7 [] []) [] h = some (.ret (.bool true), h) := fun f h => lives14_c (m + 9) f h
  clear hG hK
  refine call_clean (fn := Try.f3) rfl Try.func3 rfl rfl rfl rfl rfl (Nat.le_of_ble_eq_true rfl) ?_
  cases q200 : decide ((ns.length : Int) > 200) with
  | true =>
    conv => whnf
    with_reducible refine ⟨_, _, cG _ _, ?_⟩
    conv => whnf
    ((with_reducible cases z0 : decide ((↑ns.length : Int) > Int.ofNat 200)) <;>     try exact Bool.noConfusion (Eq.trans (Eq.symm z0) q200))
    conv => whnf
    with_reducible refine ⟨_, _, cL _ _, ?_⟩
    conv => whnf
  | false =>
    conv => whnf
    with_reducible refine ⟨_, _, cG _ _, ?_⟩
    conv => whnf
    ((with_reducible cases z0 : decide ((↑ns.length : Int) > Int.ofNat 200)) <;>     try exact Bool.noConfusion (Eq.trans (Eq.symm z0) q200))
    conv => whnf
    with_reducible refine ⟨_, _, cK _ _, ?_⟩
    conv => whnf
    clear cG cK
    refine ⟨ns.length + 1, by show ns.length + 1 ≤ 4611686018427387904; omega, ?_⟩
    refine rounds_at (fun s (a : Int × List (AV × AV)) => ⟨RG.of 132 [(4, .int .i64 a.1), (3, .mref 1), (1, .ref 0 0 0)], ⟨s.h.bs.set 1 (.map a.2), s.h.esc⟩⟩) (fun a => 0 ≤ a.1 ∧ a.1 ≤ ns.length ∧ a.2 = namesA (keysTo ns a.1.toNat)) (fun a => (ns.length - a.1).toNat) _ (0, []) ⟨by simp only; omega, by simp only; omega, rfl⟩ (by show ((ns.length : Int) - 0).toNat < ns.length + 1; omega) (by kernel_rfl) ?_
    intro a m' hI ih
    obtain ⟨i, es⟩ := a
    dsimp only at hI ih ⊢
    obtain ⟨hI0, hI1, hI2⟩ := hI
    conv => whnf
    cases hlt : decide (i < (ns.length : Int)) with
    | false =>
      clear ih
      conv => whnf
      with_reducible refine ⟨_, _, cL _ _, ?_⟩
      conv => whnf
    | true =>
      have hlt := of_decide_eq_true hlt
      obtain ⟨n, hn⟩ : ∃ n : Nat, i = n := ⟨i.toNat, by omega⟩
      obtain ⟨x, hx⟩ : ∃ x, ns[n]? = some x := ⟨_, List.getElem?_eq_getElem (by omega)⟩
      have hw : IntKind.wrap .i64 (i + 1) = i + 1 := wrap64 (by omega) (by omega)
      have hmu : (ns.length - IntKind.wrap .i64 (i + 1)).toNat < (ns.length - i).toNat := by rw [hw]; omega
      have hwa : 0 ≤ IntKind.wrap .i64 (i + 1) ∧ IntKind.wrap .i64 (i + 1) ≤ ns.length := by rw [hw]; omega
      have hk1 : keysTo ns (IntKind.wrap .i64 (i + 1)).toNat = if thereS ns i = true then keysTo ns i.toNat ++ [⟨keyS (handleK ns n), 0, 0⟩] else keysTo ns i.toNat := by
        rw [hw, hn, show ((n : Int) + 1).toNat = n + 1 by omega, keysTo, Int.toNat_natCast]
      have hxi : ns[i.toNat]? = some x := by rw [hn, Int.toNat_natCast]; exact hx
      cases ht : thereS ns i with
      | false =>
        rw [ht, if_neg (fun h => Bool.noConfusion h)] at hk1
        have c1 : ∀ (f : FuncId) (h : H), (evAll TE (m + 59)).1 f (.fn 8 [] []) [.agg [.sl (nodesA ns) ns.length t, .int .u32 gen], .int .i64 i] h = some (.ret (.tup [.sl0, .int .i64 1]), h) := fun f h => by
          rw [hn] at ht ⊢
          exact hH0 n f h ht
        have c2 : ∀ (f : FuncId) (h : H), (evAll TE (m + 59)).1 f (.fn 9 [] []) [.agg [.sl (nodesA ns) ns.length t, .int .u32 gen], .int .i64 i] h = some (.ret (.tup [.agg attrs0, .bool false]), h) := fun f h => by
          rw [hn] at ht ⊢
          exact hA0 n f h ht
        unfold attrs0 at c2
        have hkk : (false == (x.kind != 0)) = true := by
          have : (x.kind != 0) = false := by
            cases hq : (x.kind != 0) with
            | false => rfl
            | true =>
              have h00 : 0 < i := by
                rcases Int.lt_or_eq_of_le hI0 with h | h
                · exact h
                · exfalso
                  rw [← h] at hxi
                  exact absurd hq (by rw [hz x hxi]; decide)
              unfold thereS kindS at ht
              rw [hxi] at ht
              rw [decide_eq_true h00, decide_eq_true hlt, hq] at ht
              cases ht
          rw [this]
          rfl
        conv => whnf
        with_reducible refine ⟨_, _, c1 _ _, ?_⟩
        conv => whnf
        with_reducible refine ⟨_, _, c2 _ _, ?_⟩
        conv => whnf
        (refine runK_ret (ev_indexSl (sz := 25) rfl rfl rfl rfl hI0 hlt) ?_)
        conv => whnf
        (refine runK_ret (ev_loadV (z := 1) rfl rfl rfl ((nodesA_cell hxi 0 (by decide)).trans rfl)) ?_)
        conv => whnf
        ((with_reducible cases z0 : false == (x.kind != Int.ofNat 0)) <;>     try exact Bool.noConfusion (Eq.trans (Eq.symm z0) hkk))
        conv => whnf
        (exact ih (IntKind.wrap .i64 (i + 1), es) _ ⟨hwa.1, hwa.2, by rw [hk1]; exact hI2⟩ hmu (by kernel_rfl))
      | true =>
        rw [ht, if_pos rfl] at hk1
        have htn : thereS ns n = true := by rw [← hn]; exact ht
        obtain ⟨L, hL⟩ : ∃ L, L = handleK ns n := ⟨_, rfl⟩
        have hLl : L.length = 16 := by rw [hL]; rfl
        have c1 : ∀ (f : FuncId) (h : H), (evAll TE (m + 59)).1 f (.fn 8 [] []) [.agg [.sl (nodesA ns) ns.length t, .int .u32 gen], .int .i64 i] h = some (.ret (.tup [.sl (numsA .u8 L) 16 false, .int .i64 0]), h) := fun f h => by
          rw [hn, hL]
          exact hH n f h htn
        have c2 : ∀ (f : FuncId) (h : H), (evAll TE (m + 59)).1 f (.fn 9 [] []) [.agg [.sl (nodesA ns) ns.length t, .int .u32 gen], .int .i64 i] h = some (.ret (.tup [.agg (attrsS x i), .bool true]), h) := fun f h => by
          rw [hn]
          exact hA n x f h htn hx
        have c3 : ∀ (f : FuncId) (h : H), (evAll TE (m + 59)).1 f (.fn 10 [] []) [.agg [.sl (nodesA ns) ns.length t, .int .u32 gen], .sl (numsA .u8 L) 16 false] h = some (.ret (.tup [.int .i64 i, .int .u32 0]), h) := fun f h => by
          rw [hn, hL]
          exact hF n f h htn
        have c4 : (x.kind == 2) = true → ∀ (f : FuncId) (h : H), (evAll TE (m + 59)).1 f (.fn 11 [] []) [.agg [.sl (nodesA ns) ns.length t, .int .u32 gen], .int .i64 i, .int .i64 1] h = some (.ret (.bool true), h) := fun hk f h => by
          rw [hn]
          exact hW n x f h htn hx hk
        have c5 : ∀ e ∈ x.ents, ∀ (f : FuncId) (h : H), (evAll TE (m + 59)).1 f (.fn 12 [] []) [.agg [.sl (nodesA ns) ns.length t, .int .u32 gen], .int .i64 i, .str e.name] h = some (.ret (.int .i64 e.node), h) := fun e he f h => by
          rw [hn]
          exact hE n x e f h htn hx he
        have hkk : (true == (x.kind != 0)) = true := by
          have := (there_facts ht).2.2
          unfold kindS at this
          rw [hxi] at this
          rw [this]
          rfl
        have hii : (i != i) = false := by simp
        unfold attrsS at c2
        generalize IntKind.wrap .u64 (sizeS x) = sz at c2
        generalize IntKind.wrap .u32 x.links = lk at c2
        obtain ⟨id, hid⟩ : ∃ id, id = IntKind.wrap .u64 i := ⟨_, rfl⟩
        have hidd : (id != IntKind.wrap .u64 i) = false := by rw [hid]; simp
        rw [← hid] at c2
        have hnk := hN n htn
        rw [← hL] at hnk hk1
        have hf1 := find_none _ _ 0 hnk
        rw [show n = i.toNat by omega, ← hI2] at hf1
        have hes : es ++ [(.str (keyS L), .int .i64 1)] = namesA (keysTo ns (IntKind.wrap .i64 (i + 1)).toNat) := by
          rw [hk1, hI2]
          simp [namesA]
        have htop : (AB.map (es ++ [(.str (keyS L), .int .i64 1)])).top = 0 := by
          rw [hes]
          exact map_top (names_top _).1 (names_top _).2
        obtain ⟨s, hs⟩ : ∃ s, s = keyS L := ⟨_, rfl⟩
        rw [← hs] at hf1 hes htop
        have hcs : ∀ {nid : Nat} {ρ : Operand → AV} {o : Operand}, ρ o = .sl (numsA .u8 L) 16 false → evOp TE.P TE.flat nid (.convert 29 9 o) ρ = .ret (.str s, .none) := fun h => by rw [hs]; exact ev_convStr rfl rfl rfl h hLl
        clear hk1 hnk hL
        have k1 := hok x (List.mem_of_getElem? hx)
        have kl := k1.1.2
        have kle := k1.2
        clear k1 hH hH0 hA hA0 hF hW hE hN
        have hll : (x.list = .sl0 ∧ x.ents = []) ∨ ∃ tt, x.list = .sl (entriesA x.ents) x.ents.length tt := kl
        cases hkd : (x.kind == 2) with
        | true =>
          have c4 := c4 hkd
          conv => whnf
          with_reducible refine ⟨_, _, c1 _ _, ?_⟩
          conv => whnf
          with_reducible refine ⟨_, _, c2 _ _, ?_⟩
          conv => whnf
          (refine runK_ret (ev_indexSl (sz := 25) rfl rfl rfl rfl hI0 hlt) ?_)
          conv => whnf
          (refine runK_ret (ev_loadV (z := 1) rfl rfl rfl ((nodesA_cell hxi 0 (by decide)).trans rfl)) ?_)
          conv => whnf
          ((with_reducible cases z0 : true == (x.kind != Int.ofNat 0)) <;>     try exact Bool.noConfusion (Eq.trans (Eq.symm z0) hkk))
          conv => whnf
          with_reducible refine ⟨_, _, c3 _ _, ?_⟩
          conv => whnf
          ((with_reducible cases z1 : i != i) <;> try exact Bool.noConfusion (Eq.trans (Eq.symm z1) hii))
          conv => whnf
          (refine runK_ret (hcs rfl) ?_)
          conv => whnf
          (refine runK_ret (v := .int .i64 0) (w := .none) (by simp only [hf1]; rfl) ?_)
          conv => whnf
          ((with_reducible cases z2 : id != IntKind.u64.wrap i) <;> try exact Bool.noConfusion (Eq.trans (Eq.symm z2) hidd))
          conv => whnf
          (refine runK_ret (hcs rfl) ?_)
          conv => whnf
          (refine     runK_ret (v := .tup []) (w := .blk 1 (.map (es ++ [(.str s, .int .i64 1)]))) (by simp only [mapSetA, hf1]; rfl) ?_)
          conv => whnf
          (refine listK_of (if_pos (by rw [htop]; exact Nat.zero_le _)) ?_)
          conv => whnf
          ((with_reducible cases z3 : x.kind == Int.ofNat 2) <;> try exact Bool.noConfusion (Eq.trans (Eq.symm z3) hkd))
          conv => whnf
          with_reducible refine ⟨_, _, c4 _ _, ?_⟩
          conv => whnf
          refine ⟨x.ents.length + 1, by show x.ents.length + 1 ≤ 4611686018427387904; omega, ?_⟩
          refine rounds_at (fun s (k : Int) => ⟨RG.of 132 [(11, .int .i64 k), (4, .int .i64 i), (3, .mref 1), (1, .ref 0 0 0)], s.h⟩) (fun k => 0 ≤ k ∧ k ≤ x.ents.length) (fun k => (x.ents.length - k).toNat) _ 0 ⟨by omega, by omega⟩ (by show ((x.ents.length : Int) - 0).toNat < x.ents.length + 1; omega) (by kernel_rfl) ?_
          intro k m'' hJ jh
          dsimp only at hJ jh ⊢
          obtain ⟨hJ0, hJ1⟩ := hJ
          rcases hll with ⟨hl0, he0⟩ | ⟨tt, hl0⟩
          · have hk0 : k = 0 := by rw [he0] at hJ1; simp at hJ1; omega
            subst hk0
            clear jh
            have hcell : (nodesA ns)[i.toNat * 25 + 22]? = some .sl0 := by rw [nodesA_cell hxi 22 (by decide)]; show some x.list = _; rw [hl0]
            conv => whnf
            (refine runK_ret (ev_indexSl (cells := nodesA ns) (sz := 25) rfl rfl rfl rfl hI0 hlt) ?_)
            conv => whnf
            (refine runK_ret (ev_loadV (z := 1) rfl rfl rfl hcell) ?_)
            conv => whnf
            (exact ih (IntKind.wrap .i64 (i + 1), es ++ [(.str s, .int .i64 1)]) _ ⟨hwa.1, hwa.2, hes⟩ hmu (by kernel_rfl))
          · have hcell : (nodesA ns)[i.toNat * 25 + 22]? = some (.sl (entriesA x.ents) x.ents.length tt) := by rw [nodesA_cell hxi 22 (by decide)]; show some x.list = _; rw [hl0]
            cases hlt2 : decide (k < (x.ents.length : Int)) with
            | false =>
              clear jh
              conv => whnf
              (refine runK_ret (ev_indexSl (cells := nodesA ns) (sz := 25) rfl rfl rfl rfl hI0 hlt) ?_)
              conv => whnf
              (refine runK_ret (ev_loadV (z := 1) rfl rfl rfl hcell) ?_)
              conv => whnf
              ((with_reducible cases z0 : decide (k < (↑x.ents.length : Int))) <;>     try exact Bool.noConfusion (Eq.trans (Eq.symm z0) hlt2))
              conv => whnf
              (exact ih (IntKind.wrap .i64 (i + 1), es ++ [(.str s, .int .i64 1)]) _ ⟨hwa.1, hwa.2, hes⟩ hmu (by kernel_rfl))
            | true =>
              have hlt3 := of_decide_eq_true hlt2
              obtain ⟨e, he⟩ : ∃ e, x.ents[k.toNat]? = some e := ⟨_, List.getElem?_eq_getElem (by omega)⟩
              have hv : IntKind.wrap .i64 (k + 1) = k + 1 := wrap64 (by omega) (by omega)
              have hmv : (x.ents.length - IntKind.wrap .i64 (k + 1)).toNat < (x.ents.length - k).toNat := by rw [hv]; omega
              have hva : 0 ≤ IntKind.wrap .i64 (k + 1) ∧ IntKind.wrap .i64 (k + 1) ≤ x.ents.length := by rw [hv]; omega
              have hc : k.toNat * 3 + 3 ≤ (entriesA x.ents).length := by rw [entriesA_len]; omega
              have hd := entriesA_entry he
              have c6 := c5 e (List.mem_of_getElem? he)
              have hee : (e.node != e.node) = false := by simp
              clear c5 ih
              obtain ⟨en, eno, ec⟩ := e
              unfold entryA at hd
              dsimp only at c6 hd hee
              conv => whnf
              (refine runK_ret (ev_indexSl (cells := nodesA ns) (sz := 25) rfl rfl rfl rfl hI0 hlt) ?_)
              conv => whnf
              (refine runK_ret (ev_loadV (z := 1) rfl rfl rfl hcell) ?_)
              conv => whnf
              ((with_reducible cases z0 : decide (k < (↑x.ents.length : Int))) <;>     try exact Bool.noConfusion (Eq.trans (Eq.symm z0) hlt2))
              conv => whnf
              (refine runK_ret (ev_indexSl (cells := nodesA ns) (sz := 25) rfl rfl rfl rfl hI0 hlt) ?_)
              conv => whnf
              (refine runK_ret (ev_loadV (z := 1) rfl rfl rfl hcell) ?_)
              conv => whnf
              (refine runK_ret (ev_indexSl (cells := entriesA x.ents) (sz := 3) rfl rfl rfl rfl hJ0 hlt3) ?_)
              conv => whnf
              (refine runK_ret (ev_loadVA (z := 3) rfl rfl rfl hc hd) ?_)
              conv => whnf
              with_reducible refine ⟨_, _, c6 _ _, ?_⟩
              conv => whnf
              (refine ⟨by kernel_rfl, ?_⟩)
              conv => whnf
              (refine ⟨by kernel_rfl, ?_⟩)
              conv => whnf
              ((with_reducible cases z1 : eno != eno) <;> try exact Bool.noConfusion (Eq.trans (Eq.symm z1) hee))
              conv => whnf
              (exact jh (IntKind.wrap .i64 (k + 1)) _ hva hmv (by kernel_rfl))
        | false =>
          conv => whnf
          with_reducible refine ⟨_, _, c1 _ _, ?_⟩
          conv => whnf
          with_reducible refine ⟨_, _, c2 _ _, ?_⟩
          conv => whnf
          (refine runK_ret (ev_indexSl (sz := 25) rfl rfl rfl rfl hI0 hlt) ?_)
          conv => whnf
          (refine runK_ret (ev_loadV (z := 1) rfl rfl rfl ((nodesA_cell hxi 0 (by decide)).trans rfl)) ?_)
          conv => whnf
          ((with_reducible cases z0 : true == (x.kind != Int.ofNat 0)) <;>     try exact Bool.noConfusion (Eq.trans (Eq.symm z0) hkk))
          conv => whnf
          with_reducible refine ⟨_, _, c3 _ _, ?_⟩
          conv => whnf
          ((with_reducible cases z1 : i != i) <;> try exact Bool.noConfusion (Eq.trans (Eq.symm z1) hii))
          conv => whnf
          (refine runK_ret (hcs rfl) ?_)
          conv => whnf
          (refine runK_ret (v := .int .i64 0) (w := .none) (by simp only [hf1]; rfl) ?_)
          conv => whnf
          ((with_reducible cases z2 : id != IntKind.u64.wrap i) <;> try exact Bool.noConfusion (Eq.trans (Eq.symm z2) hidd))
          conv => whnf
          (refine runK_ret (hcs rfl) ?_)
          conv => whnf
          (refine     runK_ret (v := .tup []) (w := .blk 1 (.map (es ++ [(.str s, .int .i64 1)]))) (by simp only [mapSetA, hf1]; rfl) ?_)
          conv => whnf
          (refine listK_of (if_pos (by rw [htop]; exact Nat.zero_le _)) ?_)
          conv => whnf
          ((with_reducible cases z3 : x.kind == Int.ofNat 2) <;> try exact Bool.noConfusion (Eq.trans (Eq.symm z3) hkd))
          conv => whnf
          refine ⟨x.ents.length + 1, by show x.ents.length + 1 ≤ 4611686018427387904; omega, ?_⟩
          refine rounds_at (fun s (k : Int) => ⟨RG.of 132 [(11, .int .i64 k), (4, .int .i64 i), (3, .mref 1), (1, .ref 0 0 0)], s.h⟩) (fun k => 0 ≤ k ∧ k ≤ x.ents.length) (fun k => (x.ents.length - k).toNat) _ 0 ⟨by omega, by omega⟩ (by show ((x.ents.length : Int) - 0).toNat < x.ents.length + 1; omega) (by kernel_rfl) ?_
          intro k m'' hJ jh
          dsimp only at hJ jh ⊢
          obtain ⟨hJ0, hJ1⟩ := hJ
          rcases hll with ⟨hl0, he0⟩ | ⟨tt, hl0⟩
          · have hk0 : k = 0 := by rw [he0] at hJ1; simp at hJ1; omega
            subst hk0
            clear jh
            have hcell : (nodesA ns)[i.toNat * 25 + 22]? = some .sl0 := by rw [nodesA_cell hxi 22 (by decide)]; show some x.list = _; rw [hl0]
            conv => whnf
            (refine runK_ret (ev_indexSl (cells := nodesA ns) (sz := 25) rfl rfl rfl rfl hI0 hlt) ?_)
            conv => whnf
            (refine runK_ret (ev_loadV (z := 1) rfl rfl rfl hcell) ?_)
            conv => whnf
            (exact ih (IntKind.wrap .i64 (i + 1), es ++ [(.str s, .int .i64 1)]) _ ⟨hwa.1, hwa.2, hes⟩ hmu (by kernel_rfl))
          · have hcell : (nodesA ns)[i.toNat * 25 + 22]? = some (.sl (entriesA x.ents) x.ents.length tt) := by rw [nodesA_cell hxi 22 (by decide)]; show some x.list = _; rw [hl0]
            cases hlt2 : decide (k < (x.ents.length : Int)) with
            | false =>
              clear jh
              conv => whnf
              (refine runK_ret (ev_indexSl (cells := nodesA ns) (sz := 25) rfl rfl rfl rfl hI0 hlt) ?_)
              conv => whnf
              (refine runK_ret (ev_loadV (z := 1) rfl rfl rfl hcell) ?_)
              conv => whnf
              ((with_reducible cases z0 : decide (k < (↑x.ents.length : Int))) <;>     try exact Bool.noConfusion (Eq.trans (Eq.symm z0) hlt2))
              conv => whnf
              (exact ih (IntKind.wrap .i64 (i + 1), es ++ [(.str s, .int .i64 1)]) _ ⟨hwa.1, hwa.2, hes⟩ hmu (by kernel_rfl))
            | true =>
              have hlt3 := of_decide_eq_true hlt2
              obtain ⟨e, he⟩ : ∃ e, x.ents[k.toNat]? = some e := ⟨_, List.getElem?_eq_getElem (by omega)⟩
              have hv : IntKind.wrap .i64 (k + 1) = k + 1 := wrap64 (by omega) (by omega)
              have hmv : (x.ents.length - IntKind.wrap .i64 (k + 1)).toNat < (x.ents.length - k).toNat := by rw [hv]; omega
              have hva : 0 ≤ IntKind.wrap .i64 (k + 1) ∧ IntKind.wrap .i64 (k + 1) ≤ x.ents.length := by rw [hv]; omega
              have hc : k.toNat * 3 + 3 ≤ (entriesA x.ents).length := by rw [entriesA_len]; omega
              have hd := entriesA_entry he
              have c6 := c5 e (List.mem_of_getElem? he)
              have hee : (e.node != e.node) = false := by simp
              clear c5 ih
              obtain ⟨en, eno, ec⟩ := e
              unfold entryA at hd
              dsimp only at c6 hd hee
              conv => whnf
              (refine runK_ret (ev_indexSl (cells := nodesA ns) (sz := 25) rfl rfl rfl rfl hI0 hlt) ?_)
              conv => whnf
              (refine runK_ret (ev_loadV (z := 1) rfl rfl rfl hcell) ?_)
              conv => whnf
              ((with_reducible cases z0 : decide (k < (↑x.ents.length : Int))) <;>     try exact Bool.noConfusion (Eq.trans (Eq.symm z0) hlt2))
              conv => whnf
              (refine runK_ret (ev_indexSl (cells := nodesA ns) (sz := 25) rfl rfl rfl rfl hI0 hlt) ?_)
              conv => whnf
              (refine runK_ret (ev_loadV (z := 1) rfl rfl rfl hcell) ?_)
              conv => whnf
              (refine runK_ret (ev_indexSl (cells := entriesA x.ents) (sz := 3) rfl rfl rfl rfl hJ0 hlt3) ?_)
              conv => whnf
              (refine runK_ret (ev_loadVA (z := 3) rfl rfl rfl hc hd) ?_)
              conv => whnf
              with_reducible refine ⟨_, _, c6 _ _, ?_⟩
              conv => whnf
              (refine ⟨by kernel_rfl, ?_⟩)
              conv => whnf
              (refine ⟨by kernel_rfl, ?_⟩)
              conv => whnf
              ((with_reducible cases z1 : eno != eno) <;> try exact Bool.noConfusion (Eq.trans (Eq.symm z1) hee))
              conv => whnf
              (exact jh (IntKind.wrap .i64 (k + 1)) _ hva hmv (by kernel_rfl))
/-- The law, abstractly. -/
theorem found_law (m : Nat) (from_ : FuncId) (h : H) (x : TreeS) (hx : x.ok) : evCall TE (m + 60) from_ (.fn 3 [] []) [treeA x] h = some (.ret (.bool true), h) := by
  obtain ⟨g, hG⟩ := great14_c (m + 54) x hx
  cases g with
  | true => exact found_great m from_ h x.v x.ns hx.v x.gen hG
  | false =>
    have hv := hx.v
    have hns := hx.ns
    have hle := hx.len
    clear hx
    obtain ⟨v, ns, gen⟩ := x
    unfold treeA at hG ⊢
    dsimp only at hG hv hns hle ⊢
    rcases hv with ⟨rfl, rfl⟩ | ⟨t, rfl⟩
    · exact found_nil m from_ h gen hG
    have hKc := fun (f : FuncId) (h : H) => check_c (m + 47) f h ns t gen (fun y hy => ⟨(hns y hy).1, (hns y hy).2.few⟩) hle
    cases hck : checkS ns gen with
    | false =>
      rw [hck] at hKc
      exact found_not m from_ h ns t gen hG hKc
    | true =>
      rw [hck] at hKc
      obtain ⟨_, hlen, hk0, _⟩ := check_pre hck
      refine found_ok m from_ h ns t gen hG hKc (fun y hy => ⟨(hns y hy).1, by have := (hns y hy).2.entsL; omega⟩) hlen (fun y hy => ?_) (fun n hn => keysTo_new (fun y hy => (hns y hy).2) hlen hn) (fun n f h hn => ?_) (fun n f h hn => ?_) (fun n f h hn => ?_) (fun n y f h hn hy => ?_) (fun n f h hn => ?_) (fun n y f h hn hy hk => ?_) (fun n y e f h hn hy he => ?_)
      · have : kindS ns 0 = y.kind := by unfold kindS; rw [hy]
        rw [← this, hk0]
        rfl
      · have := handle_c (m + 45) f h (.sl (nodesA ns) ns.length t) ns (.inr ⟨t, rfl⟩) gen n
        have e : handleA ns n = .tup [.sl0, .int .i64 1] := by
          unfold handleA
          rw [hn]
          rfl
        rw [e] at this
        exact this
      · have := handle_c (m + 45) f h (.sl (nodesA ns) ns.length t) ns (.inr ⟨t, rfl⟩) gen n
        have e : handleA ns n = .tup [.sl (numsA .u8 (handleK ns n)) 16 false, .int .i64 0] := by
          unfold handleA
          obtain ⟨_, h2, _⟩ := there_facts hn
          rw [hn, decide_eq_false (show ¬ ((n : Int) > 1024) by omega)]
          rfl
        rw [e] at this
        exact this
      · exact attrs_none (m + 57) f h _ ns (.inr ⟨t, rfl⟩) gen n hn
      · exact attrs_some (m + 57) f h _ ns (.inr ⟨t, rfl⟩) gen n y hn (by rw [Int.toNat_natCast]; exact hy) (hns y (List.mem_of_getElem? hy)).1
      · have := find_c (m + 45) f h (.sl (nodesA ns) ns.length t) ns (.inr ⟨t, rfl⟩) gen (.sl (numsA .u8 (handleK ns n)) 16 false) (handleK ns n) (.inr ⟨false, rfl⟩)
        obtain ⟨h1, h2, _⟩ := there_facts hn
        have e1 : IntKind.wrap .u32 (n : Int) = n := wrapu32 (by omega) (by omega)
        have e2 : IntKind.wrap .i64 (n : Int) = n := wrap64 (by omega) (by omega)
        have hr := genS_range (n := n) (fun y hy => (hns y hy).2)
        have e : getHS (handleK ns n) = some ((n : Int), genS ns n) := by
          unfold handleK
          rw [e1]
          exact getHS_put (by omega) (by omega) hr.1 hr.2
        rw [e] at this
        unfold findHA at this
        dsimp only at this
        rw [e2, hn, if_neg (by simp)] at this
        exact this
      · have := within_c (m + 54) f h ns t gen n 1 hle
        rw [check_within hck hy hk (by obtain ⟨h1, _⟩ := there_facts hn; omega)] at this
        exact this
      · have := entry_c (m + 55) f h ns t gen n e.name (fun y hy => ⟨(hns y hy).1, by have := (hns y hy).2.entsL; omega⟩)
        rw [check_entry hck hy hn he] at this
        exact this
end Go.Proofs.Ytnfkpnfafekflaa.Ab
/- Over the engine: what spoils a tree. -/
namespace Go.Proofs.Ytnfkpnfafekflaa.Ab
open Go Go.RowKit

theorem only_of {ns : List NodeS} {n : Nat} {x : NodeS} (h : anyBad ns = false) (hx : ns[n]? = some x) : onlyS x = true := by
  cases ho : onlyS x with
  | true => rfl
  | false => rw [anyBad_of (List.mem_of_getElem? hx) ho] at h; cases h
theorem set_mem {ns : List NodeS} {n : Nat} {x x' : NodeS} (hx : ns[n]? = some x) : x' ∈ ns.set n x' := by
  obtain ⟨h1, _⟩ := List.getElem?_eq_some_iff.1 hx
  exact List.mem_of_getElem? (i := n) (by rw [List.getElem?_set_self h1])
/-- Another number of links. -/
theorem spoil_links {ns : List NodeS} {tg : Int} {n : Nat} {x : NodeS} {L : Int} (h : checkS ns tg = true) (hx : ns[n]? = some x) (hL : (L == x.links) = false) : checkS (ns.set n { x with links := L }) tg = false := by
  obtain ⟨_, ha, c, h1, h2⟩ := checkS_has h
  have ho := only_of ha hx
  cases hk : (x.kind != 0) with
  | false =>
    refine checkS_any (anyBad_of (set_mem hx) ?_)
    have hk0 : (x.kind == 0) = true := by simpa [bne] using hk
    unfold onlyS at ho ⊢
    dsimp only
    rw [hk0, if_pos rfl] at ho ⊢
    simp only [Bool.and_eq_true] at ho
    have hl0 : x.links = 0 := by simpa using ho.2.2.2.2.1
    have : (L == 0) = false := by rw [← hl0]; exact hL
    rw [this]
    simp
  | true =>
    have hlen : (ns.set n { x with links := L }).length = ns.length := List.length_set ..
    have hb := pass2_good ns 0 n x h2 hx hk
    refine checkS_pass2 (c := c) (by rw [hlen, pass1_set (x' := { x with links := L }) hx ⟨rfl, rfl, rfl, rfl, rfl, rfl, rfl, rfl⟩]; exact h1) (pass2_bad _ _ n { x with links := L } (by rw [List.getElem?_set_self (List.getElem?_eq_some_iff.1 hx).1]) hk ?_)
    unfold nodeBad2 at hb ⊢
    dsimp only
    cases hd : (x.kind == 2) with
    | true =>
      rw [hd, if_pos rfl] at hb
      rw [if_pos rfl]
      rw [Bool.or_eq_false_iff] at hb
      have he : x.links = IntKind.wrap .i64 (2 + at0 c.subs (0 + (n : Int))) := by simpa [bne] using hb.1
      have : (L != IntKind.wrap .i64 (2 + at0 c.subs (0 + (n : Int)))) = true := by rw [← he, bne, hL]; rfl
      rw [this]
      rfl
    | false =>
      rw [hd, if_neg (fun h => Bool.noConfusion h)] at hb
      rw [if_neg (fun h => Bool.noConfusion h)]
      rw [Bool.or_eq_false_iff] at hb
      have he : x.links = at0 c.named (0 + (n : Int)) := by simpa [bne] using hb.1
      have : (L != at0 c.named (0 + (n : Int))) = true := by rw [← he, bne, hL]; rfl
      rw [this]
      rfl
/-- A time that may not be. -/
theorem spoil_time {ns : List NodeS} {tg : Int} {n : Nat} {x : NodeS} (hx : ns[n]? = some x) : checkS (ns.set n { x with wn := 1000000000 }) tg = false := by
  cases hk : (x.kind != 0) with
  | false =>
    refine checkS_any (anyBad_of (set_mem hx) ?_)
    have hk0 : (x.kind == 0) = true := by simpa [bne] using hk
    unfold onlyS
    dsimp only
    rw [hk0, if_pos rfl]
    have : ((1000000000 : Int) == 0) = false := by decide
    rw [this]
    simp
  | true =>
    refine checkS_pass1 (pass1_bad _ _ _ _ ⟨_, set_mem hx, hk, fun g => ?_⟩)
    unfold nodeBad
    dsimp only
    rw [show decide ((1000000000 : Int) < 1000000000) = false from by decide]
    simp
/-- A directory that is its own parent. -/
theorem spoil_parent {ns : List NodeS} {tg : Int} {n : Nat} {x : NodeS} (h : checkS ns tg = true) (hx : ns[n]? = some x) (hk : (x.kind == 2) = true) (hn : 2 ≤ n) : checkS (ns.set n { x with parent := n }) tg = false := by
  obtain ⟨_, _, c, h1, _⟩ := checkS_has h
  have hlt := (List.getElem?_eq_some_iff.1 hx).1
  have hlen : (ns.set n { x with parent := (n : Int) }).length = ns.length := List.length_set ..
  have hk2 : x.kind = 2 := by simpa using hk
  refine checkS_pass2 (c := c) (by rw [hlen, pass1_set (x' := { x with parent := n }) hx ⟨rfl, rfl, rfl, rfl, rfl, rfl, rfl, rfl⟩]; exact h1) (pass2_bad _ _ n { x with parent := n } (by rw [List.getElem?_set_self hlt]) (by show (x.kind != 0) = true; rw [hk2]; rfl) ?_)
  have hp : parentS (ns.set n { x with parent := (n : Int) }) (0 + (n : Int)) = 0 + (n : Int) := by
    unfold parentS
    rw [show (0 + (n : Int)).toNat = n by omega, List.getElem?_set_self hlt]
    simp
  have ht : ((0 + (n : Int)) == 1) = false := by
    rw [beq_eq_false_iff_ne]
    omega
  unfold nodeBad2
  rw [within_self hp ht, show ((({ x with parent := (n : Int) } : NodeS).kind == 2) = true) from hk]
  rw [if_pos rfl, show decide ((0 + (n : Int)) > 1) = true from decide_eq_true (by omega)]
  simp
/-- Another one's Gen. -/
theorem spoil_gen {ns : List NodeS} {tg : Int} {n : Nat} {x y : NodeS} (hx : ns[n]? = some x) (hk : (x.kind != 0) = true) (hn : 2 ≤ n) (hy : ns[1]? = some y) (hyk : (y.kind != 0) = true) : checkS (ns.set n { x with gen := y.gen }) tg = false := by
  match ns, n, hx, hn, hy with
  | [], _, hx, _, _ => simp at hx
  | [_], _, _, _, hy => simp at hy
  | a :: b :: r, k + 2, hx, _, hy =>
    have hy : b = y := by simpa using hy
    subst hy
    refine checkS_pass1 (pass1_dup _ _ _ _ [a] (r.set k { x with gen := b.gen }) b { x with gen := b.gen } rfl (set_mem (x := x) (by simpa using hx)) hyk hk rfl)
/-- An entry of no node. -/
theorem spoil_entry {ns : List NodeS} {tg : Int} {n : Nat} {x : NodeS} {e : EntryS} {N : Int} (hx : ns[n]? = some x) (he : e.node = ns.length) : checkS (ns.set n { x with ents := x.ents ++ [e], next := N }) tg = false := by
  have hem : e ∈ x.ents ++ [e] := List.mem_append_right _ (List.mem_singleton.2 rfl)
  cases hk : (x.kind == 2) with
  | false =>
    refine checkS_any (anyBad_of (set_mem hx) ?_)
    cases ho : onlyS { x with ents := x.ents ++ [e], next := N } with
    | false => rfl
    | true =>
      have := only_list ho hk
      simp at this
  | true =>
    have hk2 : x.kind = 2 := by simpa using hk
    refine checkS_pass1 (pass1_bad _ _ _ _ ⟨_, set_mem hx, by show (x.kind != 0) = true; rw [hk2]; rfl, fun g => ?_⟩)
    have hen : entriesS (ns.set n { x with ents := x.ents ++ [e], next := N }) { x with ents := x.ents ++ [e], next := N } = false := by
      cases hen : entriesS (ns.set n { x with ents := x.ents ++ [e], next := N }) { x with ents := x.ents ++ [e], next := N } with
      | false => rfl
      | true =>
        have := entries_there hen e hem
        unfold thereS at this
        rw [List.length_set, he] at this
        simp at this
    unfold nodeBad
    rw [hen, show ((({ x with ents := x.ents ++ [e], next := N } : NodeS).kind == 2) = true) from hk]
    simp
end Go.Proofs.Ytnfkpnfafekflaa.Ab
/- Over the engine: a tree that is copied and spoiled. -/
namespace Go.Proofs.Ytnfkpnfafekflaa.Ab
open Go Go.RowKit

set_option maxRecDepth 100000
section
variable {P : Program} {flat : TypeId → Option (List Nat)} {nid : Nat} {ρ : Operand → AV}
theorem runK_loadRA {t : TypeId} {z b off ver : Nat} {a : Operand} {c cs : List AV} {i : BI} {h : List AB} {K : List RL → AV → WL → Prop} (hg : isAggA P t = some true) (hs : szOf P t = some z) (ha : ρ a = .ref b off ver) (hb : h[b]? = some (.cells c i)) (hv : ver = verA i c.length) (hl : off + z ≤ c.length) (hc : (c.drop off).take z = cs) (hk : K [.info b, .cells b off z] (.agg cs) .none) :
    runK (evOp P flat nid (.load t a) ρ) h K := by
  simp only [evOp, loadA, hg, hs, ha]
  unfold runK
  simp only [hb]
  rw [if_pos hv]
  unfold runK
  simp only [hb]
  rw [if_pos hl, hc]
  exact runK_ret rfl hk
/-- A row appended to nothing. -/
theorem ev_appendNil {t u e e' : TypeId} {sz by_ : Nat} {zc : List AV} {a x : Operand} {cells : List AV} {n : Nat} {tight : Bool} (ht : P.underlying t = some (.slice e)) (hu : P.underlying u = some (.slice e')) (hs : szOf P e = some sz) (hb : bytesA P e = some by_) (hz : zeroCellsA P e = some zc)
    (ha : ρ a = .sl0) (hx : ρ x = .sl cells n tight) (hl : cells.length = n * sz) (hn : n ≠ 0) (h1 : n ≤ 140737488355328) (h2 : n * by_ ≤ 140737488355328) (h3 : 0 < sz) (h4 : zc.length = sz) :
    evOp P flat nid (.call { callee := .builtin .append, args := #[a, x], argTypes := #[t, u] }) ρ = .ret (.rsl nid 0 n none (cells.length + 1), .new (.cells cells ⟨plainL zc, sz, true, true⟩)) := by
  simp only [evOp, builtinA, List.map_cons, List.map_nil, appendA, ht, hs, hb, hz, ha, hx, newCells, List.head?_cons, hu, lenOfA, sliceCells, Option.getD_some, Nat.le_refl, true_and]
  rw [if_pos (by omega), if_pos hl, if_pos ⟨by omega, by rw [Nat.zero_add]; exact h2, h3, h4⟩, if_neg hn, Bool.true_and]
theorem ev_rem {t w : TypeId} {x y : Operand} {k : IntKind} {a b : Int} (hx : ρ x = .int k a) (hy : ρ y = .int k b) (hb : b ≠ 0) : evOp P flat nid (.binOp .rem t x y w) ρ = .ret (.int k (a.tmod b), .none) := by
  simp only [evOp, hx, hy, binA, intArithA, if_true, if_neg hb]
  rfl
end
theorem cleanL_flatten {α : Type} {f : α → List AV} : ∀ (l : List α), (∀ x ∈ l, cleanL (f x) = true) → cleanL (l.map f).flatten = true
  | [], _ => rfl
  | x :: r, h => by
    rw [List.map_cons, List.flatten_cons, cleanL_app, h x (List.mem_cons_self ..), cleanL_flatten r fun y hy => h y (List.mem_cons_of_mem _ hy)]
    rfl
theorem rowOk_clean {k : IntKind} {v : AV} {l : List Int} (h : rowOk k v l) : v.clean = true := by
  rcases h with ⟨rfl, _⟩ | ⟨t, rfl⟩ <;> rfl
theorem entsOk_clean {v : AV} {l : List EntryS} (h : entsOk v l) : v.clean = true := by
  rcases h with ⟨rfl, _⟩ | ⟨t, rfl⟩ <;> rfl
theorem nodesA_cleanO {l : List NodeS} (h : ∀ x ∈ l, x.ok) : cleanL (nodesA l) = true := nodesA_clean fun x hx => ⟨rowOk_clean (h x hx).1, entsOk_clean (h x hx).2⟩
/-- A tree whose nodes stand in a block is lent. -/
theorem lend_tree {bs : List AB} {b n ver : Nat} {cap : Option Nat} {l : List NodeS} {i : BI} {g : Int} (hb : bs[b]? = some (.cells (nodesA l) i)) (hv : ver = verA i (nodesA l).length) (hc : ∀ x ∈ l, x.ok) (hl : l.length = n) (hz : i.sz = 25) : lendL 4 bs [.agg [.rsl b 0 n cap ver, .int .u32 g]] = [.agg [.sl (nodesA l) n (tightA cap n), .int .u32 g]] := by
  show [AV.agg [lendV (lendL 3 bs) bs (.rsl b 0 n cap ver), .int .u32 g]] = _
  rw [lendV_row hb hv (nodesA_cleanO hc) (by rw [nodesA_len, hz, hl]) (by rw [hz]; decide)]
theorem set_ok_all {ns : List NodeS} {k : Nat} {x : NodeS} (h : ∀ y ∈ ns, y.ok) (hx : x.ok) : ∀ y ∈ ns.set k x, y.ok := by
  intro y hy
  rcases List.mem_or_eq_of_mem_set hy with hy | rfl
  · exact h y hy
  · exact hx
theorem spoil_great (m : Nat) (from_ : FuncId) (h : H) (v : AV) (ns : List NodeS) (hv : nodesOk v ns) (gen at_ how : Int) (hG : ∀ (f : FuncId) (h : H), evCall TE (m + 59) f (.fn 5 [] []) [.agg [v, .int .u32 gen]] h = some (.ret (.bool true), h)) : evCall TE (m + 60) from_ (.fn 4 [] []) [.agg [v, .int .u32 gen], .int .u16 at_, .int .u8 how] h = some (.ret (.bool true), h) := by
  have cG : ∀ (f : FuncId) (h : H), (evAll TE (m + 59)).1 f (.fn 5 [] []) [.agg [v, .int .u32 gen]] h = some (.ret (.bool true), h) := hG
  have cL : ∀ (f : FuncId) (h : H), (evAll TE (m + 59)).1 f (.fn 7 [] []) [] h = some (.ret (.bool true), h) := fun f h => lives14_c (m + 9) f h
  rcases hv with ⟨rfl, rfl⟩ | ⟨t, rfl⟩
  · refine call_clean (fn := Try.f4) rfl Try.func4 rfl rfl rfl rfl rfl (Nat.le_of_ble_eq_true rfl) ?_
    conv => whnf
    with_reducible refine ⟨_, _, cG _ _, ?_⟩
    conv => whnf
    with_reducible refine ⟨_, _, cL _ _, ?_⟩
    conv => whnf
  · refine call_clean (fn := Try.f4) rfl Try.func4 rfl rfl rfl rfl rfl (Nat.le_of_ble_eq_true rfl) ?_
    conv => whnf
    with_reducible refine ⟨_, _, cG _ _, ?_⟩
    conv => whnf
    with_reducible refine ⟨_, _, cL _ _, ?_⟩
    conv => whnf
theorem spoil_not (m : Nat) (from_ : FuncId) (h : H) (v : AV) (ns : List NodeS) (hv : nodesOk v ns) (gen at_ how : Int) (hG : ∀ (f : FuncId) (h : H), evCall TE (m + 59) f (.fn 5 [] []) [.agg [v, .int .u32 gen]] h = some (.ret (.bool false), h)) (hK : ∀ (f : FuncId) (h : H), evCall TE (m + 59) f (.fn 6 [] []) [.agg [v, .int .u32 gen]] h = some (.ret (.bool false), h)) : evCall TE (m + 60) from_ (.fn 4 [] []) [.agg [v, .int .u32 gen], .int .u16 at_, .int .u8 how] h = some (.ret (.bool true), h) := by
  have cG : ∀ (f : FuncId) (h : H), (evAll TE (m + 59)).1 f (.fn 5 [] []) [.agg [v, .int .u32 gen]] h = some (.ret (.bool false), h) := hG
  have cK : ∀ (f : FuncId) (h : H), (evAll TE (m + 59)).1 f (.fn 6 [] []) [.agg [v, .int .u32 gen]] h = some (.ret (.bool false), h) := hK
  have cL : ∀ (f : FuncId) (h : H), (evAll TE (m + 59)).1 f (.fn 7 [] []) [] h = some (.ret (.bool true), h) := fun f h => lives14_c (m + 9) f h
  rcases hv with ⟨rfl, rfl⟩ | ⟨t, rfl⟩
  · refine call_clean (fn := Try.f4) rfl Try.func4 rfl rfl rfl rfl rfl (Nat.le_of_ble_eq_true rfl) ?_
    conv => whnf
    with_reducible refine ⟨_, _, cG _ _, ?_⟩
    conv => whnf
    with_reducible refine ⟨_, _, cK _ _, ?_⟩
    conv => whnf
    with_reducible refine ⟨_, _, cL _ _, ?_⟩
    conv => whnf
  · refine call_clean (fn := Try.f4) rfl Try.func4 rfl rfl rfl rfl rfl (Nat.le_of_ble_eq_true rfl) ?_
    conv => whnf
    with_reducible refine ⟨_, _, cG _ _, ?_⟩
    conv => whnf
    with_reducible refine ⟨_, _, cK _ _, ?_⟩
    conv => whnf
    with_reducible refine ⟨_, _, cL _ _, ?_⟩
    conv => whnf
set_option maxHeartbeats 8000000 in
theorem spoil0_kind (m : Nat) (from_ : FuncId) (h : H) (ns : List NodeS) (t : Bool) (gen at_ how : Int) (hG : ∀ (f : FuncId) (h : H), evCall TE (m + 59) f (.fn 5 [] []) [.agg [.sl (nodesA ns) ns.length t, .int .u32 gen]] h = some (.ret (.bool false), h)) (hK : ∀ (f : FuncId) (h : H), evCall TE (m + 59) f (.fn 6 [] []) [.agg [.sl (nodesA ns) ns.length t, .int .u32 gen]] h = some (.ret (.bool true), h))
    (hlen : ns.length ≤ 1025) (hlen2 : 2 ≤ ns.length) (R : Int) (hR : (IntKind.wrap .i64 at_).tmod (IntKind.wrap .i64 ((ns.length : Int) - 1)) = R) (h0 : 0 ≤ (IntKind.wrap .i64 (1 + R))) (h1 : (IntKind.wrap .i64 (1 + R)) < ns.length) (x : NodeS) (hx : ns[(IntKind.wrap .i64 (1 + R)).toNat]? = some x) (hxo : x.ok) (q0 : (how.tmod 5 == 0) = true) (hk : (x.kind != 2) = true) : evCall TE (m + 60) from_ (.fn 4 [] []) [.agg [.sl (nodesA ns) ns.length t, .int .u32 gen], .int .u16 at_, .int .u8 how] h = some (.ret (.bool true), h) := by
  have cG : ∀ (f : FuncId) (h : H), (evAll TE (m + 59)).1 f (.fn 5 [] []) [.agg [.sl (nodesA ns) ns.length t, .int .u32 gen]] h = some (.ret (.bool false), h) := hG
  have cK : ∀ (f : FuncId) (h : H), (evAll TE (m + 59)).1 f (.fn 6 [] []) [.agg [.sl (nodesA ns) ns.length t, .int .u32 gen]] h = some (.ret (.bool true), h) := hK
  have cL : ∀ (f : FuncId) (h : H), (evAll TE (m + 59)).1 f (.fn 7 [] []) [] h = some (.ret (.bool true), h) := fun f h => lives14_c (m + 9) f h
  clear hG hK
  have hrem : ∀ {nid : Nat} {ρ : Operand → AV} {t w : TypeId} {a b : Operand}, ρ a = .int .i64 (IntKind.wrap .i64 at_) → ρ b = .int .i64 (IntKind.wrap .i64 ((ns.length : Int) - 1)) → evOp TE.P TE.flat nid (.binOp .rem t a b w) ρ = .ret (.int .i64 R, .none) := fun ha hb => by
    rw [← hR]
    exact ev_rem ha hb (by rw [wrap64 (by omega) (by omega)]; omega)
  have happ : ∀ {nid : Nat} {ρ : Operand → AV} {a x : Operand}, ρ a = .sl0 → ρ x = .sl (nodesA ns) ns.length t → evOp TE.P TE.flat nid (.call { callee := .builtin .append, args := #[a, x], argTypes := #[22, 22] }) ρ = .ret (.rsl nid 0 ns.length none ((nodesA ns).length + 1), .new (.cells (nodesA ns) ⟨false, 25, true, true⟩)) := fun ha hx => (ev_appendNil (P := TE.P) (flat := TE.flat) (by_ := 144) rfl rfl rfl rfl rfl ha hx (nodesA_len ns) (by omega) (by omega) (by omega) (by decide) rfl).trans rfl
  have hc1 : 0 + (IntKind.wrap .i64 (1 + R)).toNat * 25 + 25 ≤ (nodesA ns).length := by rw [nodesA_len]; omega
  have hd1 : ((nodesA ns).drop (0 + (IntKind.wrap .i64 (1 + R)).toNat * 25)).take 25 = nodeA x := by rw [Nat.zero_add]; exact nodesA_node hx
  have hone : oneL (nodeA x) = true := nodeA_one hxo
  have htop : topL (nodeA x) = 0 := nodeA_top0 hxo
  refine call_clean (fn := Try.f4) rfl Try.func4 rfl rfl rfl rfl rfl (Nat.le_of_ble_eq_true rfl) ?_
  conv => whnf
  with_reducible refine ⟨_, _, cG _ _, ?_⟩
  conv => whnf
  with_reducible refine ⟨_, _, cK _ _, ?_⟩
  conv => whnf
  (refine runK_ret (happ rfl rfl) ?_)
  conv => whnf
  (refine runK_ret (hrem rfl rfl) ?_)
  conv => whnf
  (refine runK_ret (ev_indexRsl (sz := 25) rfl rfl rfl rfl h0 h1) ?_)
  conv => whnf
  (refine runK_if rfl (runK_cells rfl hc1 hd1 (runK_ret rfl ?_)))
  conv => whnf
  (refine runK_store (z := 25) rfl rfl rfl rfl hone rfl rfl rfl (Nat.le_of_ble_eq_true rfl) (.inl rfl) ?_)
  conv => whnf
  (refine listK_of (if_pos (Nat.le_trans (Nat.le_of_eq htop) (Nat.zero_le _))) ?_)
  conv => whnf
  ((with_reducible cases z0 : how.tmod (Int.ofNat 5) == Int.ofNat 0) <;>     try exact Bool.noConfusion (Eq.trans (Eq.symm z0) q0))
  conv => whnf
  ((with_reducible cases z1 : x.kind != Int.ofNat 2) <;> try exact Bool.noConfusion (Eq.trans (Eq.symm z1) hk))
  conv => whnf
  with_reducible refine ⟨_, _, cL _ _, ?_⟩
  conv => whnf
set_option maxHeartbeats 8000000 in
theorem spoil0_root (m : Nat) (from_ : FuncId) (h : H) (ns : List NodeS) (t : Bool) (gen at_ how : Int) (hG : ∀ (f : FuncId) (h : H), evCall TE (m + 59) f (.fn 5 [] []) [.agg [.sl (nodesA ns) ns.length t, .int .u32 gen]] h = some (.ret (.bool false), h)) (hK : ∀ (f : FuncId) (h : H), evCall TE (m + 59) f (.fn 6 [] []) [.agg [.sl (nodesA ns) ns.length t, .int .u32 gen]] h = some (.ret (.bool true), h))
    (hlen : ns.length ≤ 1025) (hlen2 : 2 ≤ ns.length) (R : Int) (hR : (IntKind.wrap .i64 at_).tmod (IntKind.wrap .i64 ((ns.length : Int) - 1)) = R) (h0 : 0 ≤ (IntKind.wrap .i64 (1 + R))) (h1 : (IntKind.wrap .i64 (1 + R)) < ns.length) (x : NodeS) (hx : ns[(IntKind.wrap .i64 (1 + R)).toNat]? = some x) (hxo : x.ok) (q0 : (how.tmod 5 == 0) = true) (hk : (x.kind != 2) = false) (hn : ((IntKind.wrap .i64 (1 + R)) == 1) = true) : evCall TE (m + 60) from_ (.fn 4 [] []) [.agg [.sl (nodesA ns) ns.length t, .int .u32 gen], .int .u16 at_, .int .u8 how] h = some (.ret (.bool true), h) := by
  have cG : ∀ (f : FuncId) (h : H), (evAll TE (m + 59)).1 f (.fn 5 [] []) [.agg [.sl (nodesA ns) ns.length t, .int .u32 gen]] h = some (.ret (.bool false), h) := hG
  have cK : ∀ (f : FuncId) (h : H), (evAll TE (m + 59)).1 f (.fn 6 [] []) [.agg [.sl (nodesA ns) ns.length t, .int .u32 gen]] h = some (.ret (.bool true), h) := hK
  have cL : ∀ (f : FuncId) (h : H), (evAll TE (m + 59)).1 f (.fn 7 [] []) [] h = some (.ret (.bool true), h) := fun f h => lives14_c (m + 9) f h
  clear hG hK
  have hrem : ∀ {nid : Nat} {ρ : Operand → AV} {t w : TypeId} {a b : Operand}, ρ a = .int .i64 (IntKind.wrap .i64 at_) → ρ b = .int .i64 (IntKind.wrap .i64 ((ns.length : Int) - 1)) → evOp TE.P TE.flat nid (.binOp .rem t a b w) ρ = .ret (.int .i64 R, .none) := fun ha hb => by
    rw [← hR]
    exact ev_rem ha hb (by rw [wrap64 (by omega) (by omega)]; omega)
  have happ : ∀ {nid : Nat} {ρ : Operand → AV} {a x : Operand}, ρ a = .sl0 → ρ x = .sl (nodesA ns) ns.length t → evOp TE.P TE.flat nid (.call { callee := .builtin .append, args := #[a, x], argTypes := #[22, 22] }) ρ = .ret (.rsl nid 0 ns.length none ((nodesA ns).length + 1), .new (.cells (nodesA ns) ⟨false, 25, true, true⟩)) := fun ha hx => (ev_appendNil (P := TE.P) (flat := TE.flat) (by_ := 144) rfl rfl rfl rfl rfl ha hx (nodesA_len ns) (by omega) (by omega) (by omega) (by decide) rfl).trans rfl
  have hc1 : 0 + (IntKind.wrap .i64 (1 + R)).toNat * 25 + 25 ≤ (nodesA ns).length := by rw [nodesA_len]; omega
  have hd1 : ((nodesA ns).drop (0 + (IntKind.wrap .i64 (1 + R)).toNat * 25)).take 25 = nodeA x := by rw [Nat.zero_add]; exact nodesA_node hx
  have hone : oneL (nodeA x) = true := nodeA_one hxo
  have htop : topL (nodeA x) = 0 := nodeA_top0 hxo
  refine call_clean (fn := Try.f4) rfl Try.func4 rfl rfl rfl rfl rfl (Nat.le_of_ble_eq_true rfl) ?_
  conv => whnf
  with_reducible refine ⟨_, _, cG _ _, ?_⟩
  conv => whnf
  with_reducible refine ⟨_, _, cK _ _, ?_⟩
  conv => whnf
  (refine runK_ret (happ rfl rfl) ?_)
  conv => whnf
  (refine runK_ret (hrem rfl rfl) ?_)
  conv => whnf
  (refine runK_ret (ev_indexRsl (sz := 25) rfl rfl rfl rfl h0 h1) ?_)
  conv => whnf
  (refine runK_if rfl (runK_cells rfl hc1 hd1 (runK_ret rfl ?_)))
  conv => whnf
  (refine runK_store (z := 25) rfl rfl rfl rfl hone rfl rfl rfl (Nat.le_of_ble_eq_true rfl) (.inl rfl) ?_)
  conv => whnf
  (refine listK_of (if_pos (Nat.le_trans (Nat.le_of_eq htop) (Nat.zero_le _))) ?_)
  conv => whnf
  ((with_reducible cases z0 : how.tmod (Int.ofNat 5) == Int.ofNat 0) <;>     try exact Bool.noConfusion (Eq.trans (Eq.symm z0) q0))
  conv => whnf
  ((with_reducible cases z1 : x.kind != Int.ofNat 2) <;> try exact Bool.noConfusion (Eq.trans (Eq.symm z1) hk))
  conv => whnf
  ((with_reducible cases z2 : IntKind.i64.wrap (Int.ofNat 1 + R) == Int.ofNat 1) <;>     try exact Bool.noConfusion (Eq.trans (Eq.symm z2) hn))
  conv => whnf
  with_reducible refine ⟨_, _, cL _ _, ?_⟩
  conv => whnf
set_option maxHeartbeats 8000000 in
theorem spoil0 (m : Nat) (from_ : FuncId) (h : H) (ns : List NodeS) (t : Bool) (gen at_ how : Int) (hG : ∀ (f : FuncId) (h : H), evCall TE (m + 59) f (.fn 5 [] []) [.agg [.sl (nodesA ns) ns.length t, .int .u32 gen]] h = some (.ret (.bool false), h)) (hK : ∀ (f : FuncId) (h : H), evCall TE (m + 59) f (.fn 6 [] []) [.agg [.sl (nodesA ns) ns.length t, .int .u32 gen]] h = some (.ret (.bool true), h))
    (hlen : ns.length ≤ 1025) (hlen2 : 2 ≤ ns.length) (R : Int) (hR : (IntKind.wrap .i64 at_).tmod (IntKind.wrap .i64 ((ns.length : Int) - 1)) = R) (h0 : 0 ≤ (IntKind.wrap .i64 (1 + R))) (h1 : (IntKind.wrap .i64 (1 + R)) < ns.length) (x : NodeS) (hx : ns[(IntKind.wrap .i64 (1 + R)).toNat]? = some x) (hxo : x.ok) (hok : ∀ y ∈ ns, y.ok) (q0 : (how.tmod 5 == 0) = true) (hk : (x.kind != 2) = false) (hn : ((IntKind.wrap .i64 (1 + R)) == 1) = false)
    (hC : ∀ (f : FuncId) (t : Bool), evCall TE (m + 59) f (.fn 6 [] []) [.agg [.sl (nodesA (ns.set (IntKind.wrap .i64 (1 + R)).toNat { x with parent := (IntKind.wrap .i64 (1 + R)) })) ns.length t, .int .u32 gen]] ⟨[], []⟩ = some (.ret (.bool false), ⟨[], []⟩)) : evCall TE (m + 60) from_ (.fn 4 [] []) [.agg [.sl (nodesA ns) ns.length t, .int .u32 gen], .int .u16 at_, .int .u8 how] h = some (.ret (.bool true), h) := by
  have cG : ∀ (f : FuncId) (h : H), (evAll TE (m + 59)).1 f (.fn 5 [] []) [.agg [.sl (nodesA ns) ns.length t, .int .u32 gen]] h = some (.ret (.bool false), h) := hG
  have cK : ∀ (f : FuncId) (h : H), (evAll TE (m + 59)).1 f (.fn 6 [] []) [.agg [.sl (nodesA ns) ns.length t, .int .u32 gen]] h = some (.ret (.bool true), h) := hK
  have cL : ∀ (f : FuncId) (h : H), (evAll TE (m + 59)).1 f (.fn 7 [] []) [] h = some (.ret (.bool true), h) := fun f h => lives14_c (m + 9) f h
  clear hG hK
  have hrem : ∀ {nid : Nat} {ρ : Operand → AV} {t w : TypeId} {a b : Operand}, ρ a = .int .i64 (IntKind.wrap .i64 at_) → ρ b = .int .i64 (IntKind.wrap .i64 ((ns.length : Int) - 1)) → evOp TE.P TE.flat nid (.binOp .rem t a b w) ρ = .ret (.int .i64 R, .none) := fun ha hb => by
    rw [← hR]
    exact ev_rem ha hb (by rw [wrap64 (by omega) (by omega)]; omega)
  have happ : ∀ {nid : Nat} {ρ : Operand → AV} {a x : Operand}, ρ a = .sl0 → ρ x = .sl (nodesA ns) ns.length t → evOp TE.P TE.flat nid (.call { callee := .builtin .append, args := #[a, x], argTypes := #[22, 22] }) ρ = .ret (.rsl nid 0 ns.length none ((nodesA ns).length + 1), .new (.cells (nodesA ns) ⟨false, 25, true, true⟩)) := fun ha hx => (ev_appendNil (P := TE.P) (flat := TE.flat) (by_ := 144) rfl rfl rfl rfl rfl ha hx (nodesA_len ns) (by omega) (by omega) (by omega) (by decide) rfl).trans rfl
  have hc1 : 0 + (IntKind.wrap .i64 (1 + R)).toNat * 25 + 25 ≤ (nodesA ns).length := by rw [nodesA_len]; omega
  have hd1 : ((nodesA ns).drop (0 + (IntKind.wrap .i64 (1 + R)).toNat * 25)).take 25 = nodeA x := by rw [Nat.zero_add]; exact nodesA_node hx
  have hone : oneL (nodeA x) = true := nodeA_one hxo
  have htop : topL (nodeA x) = 0 := nodeA_top0 hxo
  have c1 : ∀ (f : FuncId) (t : Bool), evCall TE (m + 59) f (.fn 6 [] []) [.agg [.sl (nodesA (ns.set (IntKind.wrap .i64 (1 + R)).toNat { x with parent := (IntKind.wrap .i64 (1 + R)) })) ns.length t, .int .u32 gen]] ⟨[], []⟩ = some (.ret (.bool false), ⟨[], []⟩) := hC
  have hone2 : oneL (nodeA { x with parent := (IntKind.wrap .i64 (1 + R)) }) = true := nodeA_one hxo
  have htop2 : topL (nodeA { x with parent := (IntKind.wrap .i64 (1 + R)) }) = 0 := nodeA_top0 hxo
  have hoks : ∀ w9 ∈ ns.set (IntKind.wrap .i64 (1 + R)).toNat { x with parent := (IntKind.wrap .i64 (1 + R)) }, w9.ok := by
    intro z hz
    rcases List.mem_or_eq_of_mem_set hz with hz | rfl
    · exact hok z hz
    · exact hxo
  have hver : (nodesA ns).length + 1 = (nodesA (ns.set (IntKind.wrap .i64 (1 + R)).toNat { x with parent := (IntKind.wrap .i64 (1 + R)) })).length + 1 := by rw [nodesA_len, nodesA_len, List.length_set]
  have hsp : splice (nodeA x) 0 (nodeA { x with parent := (IntKind.wrap .i64 (1 + R)) }) = nodeA { x with parent := (IntKind.wrap .i64 (1 + R)) } := rfl
  clear hC
  refine call_clean (fn := Try.f4) rfl Try.func4 rfl rfl rfl rfl rfl (Nat.le_of_ble_eq_true rfl) ?_
  conv => whnf
  with_reducible refine ⟨_, _, cG _ _, ?_⟩
  conv => whnf
  with_reducible refine ⟨_, _, cK _ _, ?_⟩
  conv => whnf
  (refine runK_ret (happ rfl rfl) ?_)
  conv => whnf
  (refine runK_ret (hrem rfl rfl) ?_)
  conv => whnf
  (refine runK_ret (ev_indexRsl (sz := 25) rfl rfl rfl rfl h0 h1) ?_)
  conv => whnf
  (refine runK_if rfl (runK_cells rfl hc1 hd1 (runK_ret rfl ?_)))
  conv => whnf
  (refine runK_store (z := 25) rfl rfl rfl rfl hone rfl rfl rfl (Nat.le_of_ble_eq_true rfl) (.inl rfl) ?_)
  conv => whnf
  (refine listK_of (if_pos (Nat.le_trans (Nat.le_of_eq htop) (Nat.zero_le _))) ?_)
  conv => whnf
  ((with_reducible cases z0 : how.tmod (Int.ofNat 5) == Int.ofNat 0) <;>     try exact Bool.noConfusion (Eq.trans (Eq.symm z0) q0))
  conv => whnf
  ((with_reducible cases z1 : x.kind != Int.ofNat 2) <;> try exact Bool.noConfusion (Eq.trans (Eq.symm z1) hk))
  conv => whnf
  ((with_reducible cases z2 : IntKind.i64.wrap (Int.ofNat 1 + R) == Int.ofNat 1) <;>     try exact Bool.noConfusion (Eq.trans (Eq.symm z2) hn))
  conv => whnf
  (refine runK_ret (ev_indexRsl (sz := 25) rfl rfl rfl rfl h0 h1) ?_)
  conv => whnf
  (refine     runK_store (z := 25) (vs := nodeA { x with parent := (IntKind.wrap .i64 (1 + R)) }) rfl rfl rfl rfl hone2 rfl rfl       rfl hc1 (.inl rfl) ?_)
  conv => whnf
  (refine     listK_of       (splice_nodes0 (k := 0) (x := x) (x' := { x with parent := (IntKind.wrap .i64 (1 + R)) }) hx         (Nat.le_of_ble_eq_true rfl) hsp)       ?_)
  conv => whnf
  (refine listK_of (if_pos (Nat.le_trans (Nat.le_of_eq htop) (Nat.zero_le _))) ?_)
  conv => whnf
  (refine     ⟨_, _,       call_lend rfl rfl         (lend_tree (l := ns.set (IntKind.wrap .i64 (1 + R)).toNat { x with parent := (IntKind.wrap .i64 (1 + R)) }) rfl           hver hoks (List.length_set ..) rfl)         rfl rfl (c1 _ _),       ?_⟩)
  conv => whnf
  with_reducible refine ⟨_, _, cL _ _, ?_⟩
  conv => whnf
  rfl
set_option maxHeartbeats 8000000 in
theorem spoil1 (m : Nat) (from_ : FuncId) (h : H) (ns : List NodeS) (t : Bool) (gen at_ how : Int) (hG : ∀ (f : FuncId) (h : H), evCall TE (m + 59) f (.fn 5 [] []) [.agg [.sl (nodesA ns) ns.length t, .int .u32 gen]] h = some (.ret (.bool false), h)) (hK : ∀ (f : FuncId) (h : H), evCall TE (m + 59) f (.fn 6 [] []) [.agg [.sl (nodesA ns) ns.length t, .int .u32 gen]] h = some (.ret (.bool true), h))
    (hlen : ns.length ≤ 1025) (hlen2 : 2 ≤ ns.length) (R : Int) (hR : (IntKind.wrap .i64 at_).tmod (IntKind.wrap .i64 ((ns.length : Int) - 1)) = R) (h0 : 0 ≤ (IntKind.wrap .i64 (1 + R))) (h1 : (IntKind.wrap .i64 (1 + R)) < ns.length) (x : NodeS) (hx : ns[(IntKind.wrap .i64 (1 + R)).toNat]? = some x) (hxo : x.ok) (hok : ∀ y ∈ ns, y.ok) (q0 : (how.tmod 5 == 0) = false) (q1 : (how.tmod 5 == 1) = true)
    (hC : ∀ (f : FuncId) (t : Bool), evCall TE (m + 59) f (.fn 6 [] []) [.agg [.sl (nodesA (ns.set (IntKind.wrap .i64 (1 + R)).toNat { x with links := IntKind.wrap .i64 (x.links + 1) })) ns.length t, .int .u32 gen]] ⟨[], []⟩ = some (.ret (.bool false), ⟨[], []⟩)) : evCall TE (m + 60) from_ (.fn 4 [] []) [.agg [.sl (nodesA ns) ns.length t, .int .u32 gen], .int .u16 at_, .int .u8 how] h = some (.ret (.bool true), h) := by
  have cG : ∀ (f : FuncId) (h : H), (evAll TE (m + 59)).1 f (.fn 5 [] []) [.agg [.sl (nodesA ns) ns.length t, .int .u32 gen]] h = some (.ret (.bool false), h) := hG
  have cK : ∀ (f : FuncId) (h : H), (evAll TE (m + 59)).1 f (.fn 6 [] []) [.agg [.sl (nodesA ns) ns.length t, .int .u32 gen]] h = some (.ret (.bool true), h) := hK
  have cL : ∀ (f : FuncId) (h : H), (evAll TE (m + 59)).1 f (.fn 7 [] []) [] h = some (.ret (.bool true), h) := fun f h => lives14_c (m + 9) f h
  clear hG hK
  have hrem : ∀ {nid : Nat} {ρ : Operand → AV} {t w : TypeId} {a b : Operand}, ρ a = .int .i64 (IntKind.wrap .i64 at_) → ρ b = .int .i64 (IntKind.wrap .i64 ((ns.length : Int) - 1)) → evOp TE.P TE.flat nid (.binOp .rem t a b w) ρ = .ret (.int .i64 R, .none) := fun ha hb => by
    rw [← hR]
    exact ev_rem ha hb (by rw [wrap64 (by omega) (by omega)]; omega)
  have happ : ∀ {nid : Nat} {ρ : Operand → AV} {a x : Operand}, ρ a = .sl0 → ρ x = .sl (nodesA ns) ns.length t → evOp TE.P TE.flat nid (.call { callee := .builtin .append, args := #[a, x], argTypes := #[22, 22] }) ρ = .ret (.rsl nid 0 ns.length none ((nodesA ns).length + 1), .new (.cells (nodesA ns) ⟨false, 25, true, true⟩)) := fun ha hx => (ev_appendNil (P := TE.P) (flat := TE.flat) (by_ := 144) rfl rfl rfl rfl rfl ha hx (nodesA_len ns) (by omega) (by omega) (by omega) (by decide) rfl).trans rfl
  have hc1 : 0 + (IntKind.wrap .i64 (1 + R)).toNat * 25 + 25 ≤ (nodesA ns).length := by rw [nodesA_len]; omega
  have hd1 : ((nodesA ns).drop (0 + (IntKind.wrap .i64 (1 + R)).toNat * 25)).take 25 = nodeA x := by rw [Nat.zero_add]; exact nodesA_node hx
  have hone : oneL (nodeA x) = true := nodeA_one hxo
  have htop : topL (nodeA x) = 0 := nodeA_top0 hxo
  have c1 : ∀ (f : FuncId) (t : Bool), evCall TE (m + 59) f (.fn 6 [] []) [.agg [.sl (nodesA (ns.set (IntKind.wrap .i64 (1 + R)).toNat { x with links := IntKind.wrap .i64 (x.links + 1) })) ns.length t, .int .u32 gen]] ⟨[], []⟩ = some (.ret (.bool false), ⟨[], []⟩) := hC
  have hone2 : oneL (nodeA { x with links := IntKind.wrap .i64 (x.links + 1) }) = true := nodeA_one hxo
  have htop2 : topL (nodeA { x with links := IntKind.wrap .i64 (x.links + 1) }) = 0 := nodeA_top0 hxo
  have hoks : ∀ w9 ∈ ns.set (IntKind.wrap .i64 (1 + R)).toNat { x with links := IntKind.wrap .i64 (x.links + 1) }, w9.ok := by
    intro z hz
    rcases List.mem_or_eq_of_mem_set hz with hz | rfl
    · exact hok z hz
    · exact hxo
  have hver : (nodesA ns).length + 1 = (nodesA (ns.set (IntKind.wrap .i64 (1 + R)).toNat { x with links := IntKind.wrap .i64 (x.links + 1) })).length + 1 := by rw [nodesA_len, nodesA_len, List.length_set]
  have hsp : splice (nodeA x) 0 (nodeA { x with links := IntKind.wrap .i64 (x.links + 1) }) = nodeA { x with links := IntKind.wrap .i64 (x.links + 1) } := rfl
  clear hC
  refine call_clean (fn := Try.f4) rfl Try.func4 rfl rfl rfl rfl rfl (Nat.le_of_ble_eq_true rfl) ?_
  conv => whnf
  with_reducible refine ⟨_, _, cG _ _, ?_⟩
  conv => whnf
  with_reducible refine ⟨_, _, cK _ _, ?_⟩
  conv => whnf
  (refine runK_ret (happ rfl rfl) ?_)
  conv => whnf
  (refine runK_ret (hrem rfl rfl) ?_)
  conv => whnf
  (refine runK_ret (ev_indexRsl (sz := 25) rfl rfl rfl rfl h0 h1) ?_)
  conv => whnf
  (refine runK_if rfl (runK_cells rfl hc1 hd1 (runK_ret rfl ?_)))
  conv => whnf
  (refine runK_store (z := 25) rfl rfl rfl rfl hone rfl rfl rfl (Nat.le_of_ble_eq_true rfl) (.inl rfl) ?_)
  conv => whnf
  (refine listK_of (if_pos (Nat.le_trans (Nat.le_of_eq htop) (Nat.zero_le _))) ?_)
  conv => whnf
  ((with_reducible cases z0 : how.tmod (Int.ofNat 5) == Int.ofNat 0) <;>     try exact Bool.noConfusion (Eq.trans (Eq.symm z0) q0))
  conv => whnf
  ((with_reducible cases z1 : how.tmod (Int.ofNat 5) == Int.ofNat 1) <;>     try exact Bool.noConfusion (Eq.trans (Eq.symm z1) q1))
  conv => whnf
  (refine runK_ret (ev_indexRsl (sz := 25) rfl rfl rfl rfl h0 h1) ?_)
  conv => whnf
  (refine     runK_store (z := 25) (vs := nodeA { x with links := IntKind.wrap .i64 (x.links + 1) }) rfl rfl rfl rfl hone2 rfl rfl       rfl hc1 (.inl rfl) ?_)
  conv => whnf
  (refine     listK_of       (splice_nodes0 (k := 0) (x := x) (x' := { x with links := IntKind.wrap .i64 (x.links + 1) }) hx         (Nat.le_of_ble_eq_true rfl) hsp)       ?_)
  conv => whnf
  (refine listK_of (if_pos (Nat.le_trans (Nat.le_of_eq htop) (Nat.zero_le _))) ?_)
  conv => whnf
  (refine     ⟨_, _,       call_lend rfl rfl         (lend_tree (l := ns.set (IntKind.wrap .i64 (1 + R)).toNat { x with links := IntKind.wrap .i64 (x.links + 1) })           rfl hver hoks (List.length_set ..) rfl)         rfl rfl (c1 _ _),       ?_⟩)
  conv => whnf
  with_reducible refine ⟨_, _, cL _ _, ?_⟩
  conv => whnf
  rfl
set_option maxHeartbeats 8000000 in
theorem spoil2 (m : Nat) (from_ : FuncId) (h : H) (ns : List NodeS) (t : Bool) (gen at_ how : Int) (hG : ∀ (f : FuncId) (h : H), evCall TE (m + 59) f (.fn 5 [] []) [.agg [.sl (nodesA ns) ns.length t, .int .u32 gen]] h = some (.ret (.bool false), h)) (hK : ∀ (f : FuncId) (h : H), evCall TE (m + 59) f (.fn 6 [] []) [.agg [.sl (nodesA ns) ns.length t, .int .u32 gen]] h = some (.ret (.bool true), h))
    (hlen : ns.length ≤ 1025) (hlen2 : 2 ≤ ns.length) (R : Int) (hR : (IntKind.wrap .i64 at_).tmod (IntKind.wrap .i64 ((ns.length : Int) - 1)) = R) (h0 : 0 ≤ (IntKind.wrap .i64 (1 + R))) (h1 : (IntKind.wrap .i64 (1 + R)) < ns.length) (x : NodeS) (hx : ns[(IntKind.wrap .i64 (1 + R)).toNat]? = some x) (hxo : x.ok) (hok : ∀ y ∈ ns, y.ok) (q0 : (how.tmod 5 == 0) = false) (q1 : (how.tmod 5 == 1) = false) (q2 : (how.tmod 5 == 2) = true)
    (hC : ∀ (f : FuncId) (t : Bool), evCall TE (m + 59) f (.fn 6 [] []) [.agg [.sl (nodesA (ns.set (IntKind.wrap .i64 (1 + R)).toNat { x with wn := 1000000000 })) ns.length t, .int .u32 gen]] ⟨[], []⟩ = some (.ret (.bool false), ⟨[], []⟩)) : evCall TE (m + 60) from_ (.fn 4 [] []) [.agg [.sl (nodesA ns) ns.length t, .int .u32 gen], .int .u16 at_, .int .u8 how] h = some (.ret (.bool true), h) := by
  have cG : ∀ (f : FuncId) (h : H), (evAll TE (m + 59)).1 f (.fn 5 [] []) [.agg [.sl (nodesA ns) ns.length t, .int .u32 gen]] h = some (.ret (.bool false), h) := hG
  have cK : ∀ (f : FuncId) (h : H), (evAll TE (m + 59)).1 f (.fn 6 [] []) [.agg [.sl (nodesA ns) ns.length t, .int .u32 gen]] h = some (.ret (.bool true), h) := hK
  have cL : ∀ (f : FuncId) (h : H), (evAll TE (m + 59)).1 f (.fn 7 [] []) [] h = some (.ret (.bool true), h) := fun f h => lives14_c (m + 9) f h
  clear hG hK
  have hrem : ∀ {nid : Nat} {ρ : Operand → AV} {t w : TypeId} {a b : Operand}, ρ a = .int .i64 (IntKind.wrap .i64 at_) → ρ b = .int .i64 (IntKind.wrap .i64 ((ns.length : Int) - 1)) → evOp TE.P TE.flat nid (.binOp .rem t a b w) ρ = .ret (.int .i64 R, .none) := fun ha hb => by
    rw [← hR]
    exact ev_rem ha hb (by rw [wrap64 (by omega) (by omega)]; omega)
  have happ : ∀ {nid : Nat} {ρ : Operand → AV} {a x : Operand}, ρ a = .sl0 → ρ x = .sl (nodesA ns) ns.length t → evOp TE.P TE.flat nid (.call { callee := .builtin .append, args := #[a, x], argTypes := #[22, 22] }) ρ = .ret (.rsl nid 0 ns.length none ((nodesA ns).length + 1), .new (.cells (nodesA ns) ⟨false, 25, true, true⟩)) := fun ha hx => (ev_appendNil (P := TE.P) (flat := TE.flat) (by_ := 144) rfl rfl rfl rfl rfl ha hx (nodesA_len ns) (by omega) (by omega) (by omega) (by decide) rfl).trans rfl
  have hc1 : 0 + (IntKind.wrap .i64 (1 + R)).toNat * 25 + 25 ≤ (nodesA ns).length := by rw [nodesA_len]; omega
  have hd1 : ((nodesA ns).drop (0 + (IntKind.wrap .i64 (1 + R)).toNat * 25)).take 25 = nodeA x := by rw [Nat.zero_add]; exact nodesA_node hx
  have hone : oneL (nodeA x) = true := nodeA_one hxo
  have htop : topL (nodeA x) = 0 := nodeA_top0 hxo
  have c1 : ∀ (f : FuncId) (t : Bool), evCall TE (m + 59) f (.fn 6 [] []) [.agg [.sl (nodesA (ns.set (IntKind.wrap .i64 (1 + R)).toNat { x with wn := 1000000000 })) ns.length t, .int .u32 gen]] ⟨[], []⟩ = some (.ret (.bool false), ⟨[], []⟩) := hC
  have hone2 : oneL (nodeA { x with wn := 1000000000 }) = true := nodeA_one hxo
  have htop2 : topL (nodeA { x with wn := 1000000000 }) = 0 := nodeA_top0 hxo
  have hoks : ∀ w9 ∈ ns.set (IntKind.wrap .i64 (1 + R)).toNat { x with wn := 1000000000 }, w9.ok := by
    intro z hz
    rcases List.mem_or_eq_of_mem_set hz with hz | rfl
    · exact hok z hz
    · exact hxo
  have hver : (nodesA ns).length + 1 = (nodesA (ns.set (IntKind.wrap .i64 (1 + R)).toNat { x with wn := 1000000000 })).length + 1 := by rw [nodesA_len, nodesA_len, List.length_set]
  have hsp : splice (nodeA x) 0 (nodeA { x with wn := 1000000000 }) = nodeA { x with wn := 1000000000 } := rfl
  clear hC
  refine call_clean (fn := Try.f4) rfl Try.func4 rfl rfl rfl rfl rfl (Nat.le_of_ble_eq_true rfl) ?_
  conv => whnf
  with_reducible refine ⟨_, _, cG _ _, ?_⟩
  conv => whnf
  with_reducible refine ⟨_, _, cK _ _, ?_⟩
  conv => whnf
  (refine runK_ret (happ rfl rfl) ?_)
  conv => whnf
  (refine runK_ret (hrem rfl rfl) ?_)
  conv => whnf
  (refine runK_ret (ev_indexRsl (sz := 25) rfl rfl rfl rfl h0 h1) ?_)
  conv => whnf
  (refine runK_if rfl (runK_cells rfl hc1 hd1 (runK_ret rfl ?_)))
  conv => whnf
  (refine runK_store (z := 25) rfl rfl rfl rfl hone rfl rfl rfl (Nat.le_of_ble_eq_true rfl) (.inl rfl) ?_)
  conv => whnf
  (refine listK_of (if_pos (Nat.le_trans (Nat.le_of_eq htop) (Nat.zero_le _))) ?_)
  conv => whnf
  ((with_reducible cases z0 : how.tmod (Int.ofNat 5) == Int.ofNat 0) <;>     try exact Bool.noConfusion (Eq.trans (Eq.symm z0) q0))
  conv => whnf
  ((with_reducible cases z1 : how.tmod (Int.ofNat 5) == Int.ofNat 1) <;>     try exact Bool.noConfusion (Eq.trans (Eq.symm z1) q1))
  conv => whnf
  ((with_reducible cases z2 : how.tmod (Int.ofNat 5) == Int.ofNat 2) <;>     try exact Bool.noConfusion (Eq.trans (Eq.symm z2) q2))
  conv => whnf
  (refine runK_ret (ev_indexRsl (sz := 25) rfl rfl rfl rfl h0 h1) ?_)
  conv => whnf
  (refine     runK_store (z := 25) (vs := nodeA { x with wn := 1000000000 }) rfl rfl rfl rfl hone2 rfl rfl rfl hc1 (.inl rfl) ?_)
  conv => whnf
  (refine     listK_of (splice_nodes0 (k := 0) (x := x) (x' := { x with wn := 1000000000 }) hx (Nat.le_of_ble_eq_true rfl) hsp)       ?_)
  conv => whnf
  (refine listK_of (if_pos (Nat.le_trans (Nat.le_of_eq htop) (Nat.zero_le _))) ?_)
  conv => whnf
  (refine     ⟨_, _,       call_lend rfl rfl         (lend_tree (l := ns.set (IntKind.wrap .i64 (1 + R)).toNat { x with wn := 1000000000 }) rfl hver hoks           (List.length_set ..) rfl)         rfl rfl (c1 _ _),       ?_⟩)
  conv => whnf
  with_reducible refine ⟨_, _, cL _ _, ?_⟩
  conv => whnf
  rfl
set_option maxHeartbeats 8000000 in
theorem spoil3_root (m : Nat) (from_ : FuncId) (h : H) (ns : List NodeS) (t : Bool) (gen at_ how : Int) (hG : ∀ (f : FuncId) (h : H), evCall TE (m + 59) f (.fn 5 [] []) [.agg [.sl (nodesA ns) ns.length t, .int .u32 gen]] h = some (.ret (.bool false), h)) (hK : ∀ (f : FuncId) (h : H), evCall TE (m + 59) f (.fn 6 [] []) [.agg [.sl (nodesA ns) ns.length t, .int .u32 gen]] h = some (.ret (.bool true), h))
    (hlen : ns.length ≤ 1025) (hlen2 : 2 ≤ ns.length) (R : Int) (hR : (IntKind.wrap .i64 at_).tmod (IntKind.wrap .i64 ((ns.length : Int) - 1)) = R) (h0 : 0 ≤ (IntKind.wrap .i64 (1 + R))) (h1 : (IntKind.wrap .i64 (1 + R)) < ns.length) (x : NodeS) (hx : ns[(IntKind.wrap .i64 (1 + R)).toNat]? = some x) (hxo : x.ok) (q0 : (how.tmod 5 == 0) = false) (q1 : (how.tmod 5 == 1) = false) (q2 : (how.tmod 5 == 2) = false) (q3 : (how.tmod 5 == 3) = true) (hn : ((IntKind.wrap .i64 (1 + R)) == 1) = true) : evCall TE (m + 60) from_ (.fn 4 [] []) [.agg [.sl (nodesA ns) ns.length t, .int .u32 gen], .int .u16 at_, .int .u8 how] h = some (.ret (.bool true), h) := by
  have cG : ∀ (f : FuncId) (h : H), (evAll TE (m + 59)).1 f (.fn 5 [] []) [.agg [.sl (nodesA ns) ns.length t, .int .u32 gen]] h = some (.ret (.bool false), h) := hG
  have cK : ∀ (f : FuncId) (h : H), (evAll TE (m + 59)).1 f (.fn 6 [] []) [.agg [.sl (nodesA ns) ns.length t, .int .u32 gen]] h = some (.ret (.bool true), h) := hK
  have cL : ∀ (f : FuncId) (h : H), (evAll TE (m + 59)).1 f (.fn 7 [] []) [] h = some (.ret (.bool true), h) := fun f h => lives14_c (m + 9) f h
  clear hG hK
  have hrem : ∀ {nid : Nat} {ρ : Operand → AV} {t w : TypeId} {a b : Operand}, ρ a = .int .i64 (IntKind.wrap .i64 at_) → ρ b = .int .i64 (IntKind.wrap .i64 ((ns.length : Int) - 1)) → evOp TE.P TE.flat nid (.binOp .rem t a b w) ρ = .ret (.int .i64 R, .none) := fun ha hb => by
    rw [← hR]
    exact ev_rem ha hb (by rw [wrap64 (by omega) (by omega)]; omega)
  have happ : ∀ {nid : Nat} {ρ : Operand → AV} {a x : Operand}, ρ a = .sl0 → ρ x = .sl (nodesA ns) ns.length t → evOp TE.P TE.flat nid (.call { callee := .builtin .append, args := #[a, x], argTypes := #[22, 22] }) ρ = .ret (.rsl nid 0 ns.length none ((nodesA ns).length + 1), .new (.cells (nodesA ns) ⟨false, 25, true, true⟩)) := fun ha hx => (ev_appendNil (P := TE.P) (flat := TE.flat) (by_ := 144) rfl rfl rfl rfl rfl ha hx (nodesA_len ns) (by omega) (by omega) (by omega) (by decide) rfl).trans rfl
  have hc1 : 0 + (IntKind.wrap .i64 (1 + R)).toNat * 25 + 25 ≤ (nodesA ns).length := by rw [nodesA_len]; omega
  have hd1 : ((nodesA ns).drop (0 + (IntKind.wrap .i64 (1 + R)).toNat * 25)).take 25 = nodeA x := by rw [Nat.zero_add]; exact nodesA_node hx
  have hone : oneL (nodeA x) = true := nodeA_one hxo
  have htop : topL (nodeA x) = 0 := nodeA_top0 hxo
  refine call_clean (fn := Try.f4) rfl Try.func4 rfl rfl rfl rfl rfl (Nat.le_of_ble_eq_true rfl) ?_
  conv => whnf
  with_reducible refine ⟨_, _, cG _ _, ?_⟩
  conv => whnf
  with_reducible refine ⟨_, _, cK _ _, ?_⟩
  conv => whnf
  (refine runK_ret (happ rfl rfl) ?_)
  conv => whnf
  (refine runK_ret (hrem rfl rfl) ?_)
  conv => whnf
  (refine runK_ret (ev_indexRsl (sz := 25) rfl rfl rfl rfl h0 h1) ?_)
  conv => whnf
  (refine runK_if rfl (runK_cells rfl hc1 hd1 (runK_ret rfl ?_)))
  conv => whnf
  (refine runK_store (z := 25) rfl rfl rfl rfl hone rfl rfl rfl (Nat.le_of_ble_eq_true rfl) (.inl rfl) ?_)
  conv => whnf
  (refine listK_of (if_pos (Nat.le_trans (Nat.le_of_eq htop) (Nat.zero_le _))) ?_)
  conv => whnf
  ((with_reducible cases z0 : how.tmod (Int.ofNat 5) == Int.ofNat 0) <;>     try exact Bool.noConfusion (Eq.trans (Eq.symm z0) q0))
  conv => whnf
  ((with_reducible cases z1 : how.tmod (Int.ofNat 5) == Int.ofNat 1) <;>     try exact Bool.noConfusion (Eq.trans (Eq.symm z1) q1))
  conv => whnf
  ((with_reducible cases z2 : how.tmod (Int.ofNat 5) == Int.ofNat 2) <;>     try exact Bool.noConfusion (Eq.trans (Eq.symm z2) q2))
  conv => whnf
  ((with_reducible cases z3 : how.tmod (Int.ofNat 5) == Int.ofNat 3) <;>     try exact Bool.noConfusion (Eq.trans (Eq.symm z3) q3))
  conv => whnf
  ((with_reducible cases z4 : IntKind.i64.wrap (Int.ofNat 1 + R) == Int.ofNat 1) <;>     try exact Bool.noConfusion (Eq.trans (Eq.symm z4) hn))
  conv => whnf
  with_reducible refine ⟨_, _, cL _ _, ?_⟩
  conv => whnf
set_option maxHeartbeats 8000000 in
theorem spoil3_none (m : Nat) (from_ : FuncId) (h : H) (ns : List NodeS) (t : Bool) (gen at_ how : Int) (hG : ∀ (f : FuncId) (h : H), evCall TE (m + 59) f (.fn 5 [] []) [.agg [.sl (nodesA ns) ns.length t, .int .u32 gen]] h = some (.ret (.bool false), h)) (hK : ∀ (f : FuncId) (h : H), evCall TE (m + 59) f (.fn 6 [] []) [.agg [.sl (nodesA ns) ns.length t, .int .u32 gen]] h = some (.ret (.bool true), h))
    (hlen : ns.length ≤ 1025) (hlen2 : 2 ≤ ns.length) (R : Int) (hR : (IntKind.wrap .i64 at_).tmod (IntKind.wrap .i64 ((ns.length : Int) - 1)) = R) (h0 : 0 ≤ (IntKind.wrap .i64 (1 + R))) (h1 : (IntKind.wrap .i64 (1 + R)) < ns.length) (x : NodeS) (hx : ns[(IntKind.wrap .i64 (1 + R)).toNat]? = some x) (hxo : x.ok) (q0 : (how.tmod 5 == 0) = false) (q1 : (how.tmod 5 == 1) = false) (q2 : (how.tmod 5 == 2) = false) (q3 : (how.tmod 5 == 3) = true) (hn : ((IntKind.wrap .i64 (1 + R)) == 1) = false) (hk : (x.kind == 0) = true) : evCall TE (m + 60) from_ (.fn 4 [] []) [.agg [.sl (nodesA ns) ns.length t, .int .u32 gen], .int .u16 at_, .int .u8 how] h = some (.ret (.bool true), h) := by
  have cG : ∀ (f : FuncId) (h : H), (evAll TE (m + 59)).1 f (.fn 5 [] []) [.agg [.sl (nodesA ns) ns.length t, .int .u32 gen]] h = some (.ret (.bool false), h) := hG
  have cK : ∀ (f : FuncId) (h : H), (evAll TE (m + 59)).1 f (.fn 6 [] []) [.agg [.sl (nodesA ns) ns.length t, .int .u32 gen]] h = some (.ret (.bool true), h) := hK
  have cL : ∀ (f : FuncId) (h : H), (evAll TE (m + 59)).1 f (.fn 7 [] []) [] h = some (.ret (.bool true), h) := fun f h => lives14_c (m + 9) f h
  clear hG hK
  have hrem : ∀ {nid : Nat} {ρ : Operand → AV} {t w : TypeId} {a b : Operand}, ρ a = .int .i64 (IntKind.wrap .i64 at_) → ρ b = .int .i64 (IntKind.wrap .i64 ((ns.length : Int) - 1)) → evOp TE.P TE.flat nid (.binOp .rem t a b w) ρ = .ret (.int .i64 R, .none) := fun ha hb => by
    rw [← hR]
    exact ev_rem ha hb (by rw [wrap64 (by omega) (by omega)]; omega)
  have happ : ∀ {nid : Nat} {ρ : Operand → AV} {a x : Operand}, ρ a = .sl0 → ρ x = .sl (nodesA ns) ns.length t → evOp TE.P TE.flat nid (.call { callee := .builtin .append, args := #[a, x], argTypes := #[22, 22] }) ρ = .ret (.rsl nid 0 ns.length none ((nodesA ns).length + 1), .new (.cells (nodesA ns) ⟨false, 25, true, true⟩)) := fun ha hx => (ev_appendNil (P := TE.P) (flat := TE.flat) (by_ := 144) rfl rfl rfl rfl rfl ha hx (nodesA_len ns) (by omega) (by omega) (by omega) (by decide) rfl).trans rfl
  have hc1 : 0 + (IntKind.wrap .i64 (1 + R)).toNat * 25 + 25 ≤ (nodesA ns).length := by rw [nodesA_len]; omega
  have hd1 : ((nodesA ns).drop (0 + (IntKind.wrap .i64 (1 + R)).toNat * 25)).take 25 = nodeA x := by rw [Nat.zero_add]; exact nodesA_node hx
  have hone : oneL (nodeA x) = true := nodeA_one hxo
  have htop : topL (nodeA x) = 0 := nodeA_top0 hxo
  refine call_clean (fn := Try.f4) rfl Try.func4 rfl rfl rfl rfl rfl (Nat.le_of_ble_eq_true rfl) ?_
  conv => whnf
  with_reducible refine ⟨_, _, cG _ _, ?_⟩
  conv => whnf
  with_reducible refine ⟨_, _, cK _ _, ?_⟩
  conv => whnf
  (refine runK_ret (happ rfl rfl) ?_)
  conv => whnf
  (refine runK_ret (hrem rfl rfl) ?_)
  conv => whnf
  (refine runK_ret (ev_indexRsl (sz := 25) rfl rfl rfl rfl h0 h1) ?_)
  conv => whnf
  (refine runK_if rfl (runK_cells rfl hc1 hd1 (runK_ret rfl ?_)))
  conv => whnf
  (refine runK_store (z := 25) rfl rfl rfl rfl hone rfl rfl rfl (Nat.le_of_ble_eq_true rfl) (.inl rfl) ?_)
  conv => whnf
  (refine listK_of (if_pos (Nat.le_trans (Nat.le_of_eq htop) (Nat.zero_le _))) ?_)
  conv => whnf
  ((with_reducible cases z0 : how.tmod (Int.ofNat 5) == Int.ofNat 0) <;>     try exact Bool.noConfusion (Eq.trans (Eq.symm z0) q0))
  conv => whnf
  ((with_reducible cases z1 : how.tmod (Int.ofNat 5) == Int.ofNat 1) <;>     try exact Bool.noConfusion (Eq.trans (Eq.symm z1) q1))
  conv => whnf
  ((with_reducible cases z2 : how.tmod (Int.ofNat 5) == Int.ofNat 2) <;>     try exact Bool.noConfusion (Eq.trans (Eq.symm z2) q2))
  conv => whnf
  ((with_reducible cases z3 : how.tmod (Int.ofNat 5) == Int.ofNat 3) <;>     try exact Bool.noConfusion (Eq.trans (Eq.symm z3) q3))
  conv => whnf
  ((with_reducible cases z4 : IntKind.i64.wrap (Int.ofNat 1 + R) == Int.ofNat 1) <;>     try exact Bool.noConfusion (Eq.trans (Eq.symm z4) hn))
  conv => whnf
  ((with_reducible cases z5 : x.kind == Int.ofNat 0) <;> try exact Bool.noConfusion (Eq.trans (Eq.symm z5) hk))
  conv => whnf
  with_reducible refine ⟨_, _, cL _ _, ?_⟩
  conv => whnf
set_option maxHeartbeats 8000000 in
theorem spoil3 (m : Nat) (from_ : FuncId) (h : H) (ns : List NodeS) (t : Bool) (gen at_ how : Int) (hG : ∀ (f : FuncId) (h : H), evCall TE (m + 59) f (.fn 5 [] []) [.agg [.sl (nodesA ns) ns.length t, .int .u32 gen]] h = some (.ret (.bool false), h)) (hK : ∀ (f : FuncId) (h : H), evCall TE (m + 59) f (.fn 6 [] []) [.agg [.sl (nodesA ns) ns.length t, .int .u32 gen]] h = some (.ret (.bool true), h))
    (hlen : ns.length ≤ 1025) (hlen2 : 2 ≤ ns.length) (R : Int) (hR : (IntKind.wrap .i64 at_).tmod (IntKind.wrap .i64 ((ns.length : Int) - 1)) = R) (h0 : 0 ≤ (IntKind.wrap .i64 (1 + R))) (h1 : (IntKind.wrap .i64 (1 + R)) < ns.length) (x : NodeS) (hx : ns[(IntKind.wrap .i64 (1 + R)).toNat]? = some x) (hxo : x.ok) (hok : ∀ y ∈ ns, y.ok) (q0 : (how.tmod 5 == 0) = false) (q1 : (how.tmod 5 == 1) = false) (q2 : (how.tmod 5 == 2) = false) (q3 : (how.tmod 5 == 3) = true) (hn : ((IntKind.wrap .i64 (1 + R)) == 1) = false) (hk : (x.kind == 0) = false) (y : NodeS) (hy : ns[1]? = some y)
    (hC : ∀ (f : FuncId) (t : Bool), evCall TE (m + 59) f (.fn 6 [] []) [.agg [.sl (nodesA (ns.set (IntKind.wrap .i64 (1 + R)).toNat { x with gen := y.gen })) ns.length t, .int .u32 gen]] ⟨[], []⟩ = some (.ret (.bool false), ⟨[], []⟩)) : evCall TE (m + 60) from_ (.fn 4 [] []) [.agg [.sl (nodesA ns) ns.length t, .int .u32 gen], .int .u16 at_, .int .u8 how] h = some (.ret (.bool true), h) := by
  have cG : ∀ (f : FuncId) (h : H), (evAll TE (m + 59)).1 f (.fn 5 [] []) [.agg [.sl (nodesA ns) ns.length t, .int .u32 gen]] h = some (.ret (.bool false), h) := hG
  have cK : ∀ (f : FuncId) (h : H), (evAll TE (m + 59)).1 f (.fn 6 [] []) [.agg [.sl (nodesA ns) ns.length t, .int .u32 gen]] h = some (.ret (.bool true), h) := hK
  have cL : ∀ (f : FuncId) (h : H), (evAll TE (m + 59)).1 f (.fn 7 [] []) [] h = some (.ret (.bool true), h) := fun f h => lives14_c (m + 9) f h
  clear hG hK
  have hrem : ∀ {nid : Nat} {ρ : Operand → AV} {t w : TypeId} {a b : Operand}, ρ a = .int .i64 (IntKind.wrap .i64 at_) → ρ b = .int .i64 (IntKind.wrap .i64 ((ns.length : Int) - 1)) → evOp TE.P TE.flat nid (.binOp .rem t a b w) ρ = .ret (.int .i64 R, .none) := fun ha hb => by
    rw [← hR]
    exact ev_rem ha hb (by rw [wrap64 (by omega) (by omega)]; omega)
  have happ : ∀ {nid : Nat} {ρ : Operand → AV} {a x : Operand}, ρ a = .sl0 → ρ x = .sl (nodesA ns) ns.length t → evOp TE.P TE.flat nid (.call { callee := .builtin .append, args := #[a, x], argTypes := #[22, 22] }) ρ = .ret (.rsl nid 0 ns.length none ((nodesA ns).length + 1), .new (.cells (nodesA ns) ⟨false, 25, true, true⟩)) := fun ha hx => (ev_appendNil (P := TE.P) (flat := TE.flat) (by_ := 144) rfl rfl rfl rfl rfl ha hx (nodesA_len ns) (by omega) (by omega) (by omega) (by decide) rfl).trans rfl
  have hc1 : 0 + (IntKind.wrap .i64 (1 + R)).toNat * 25 + 25 ≤ (nodesA ns).length := by rw [nodesA_len]; omega
  have hd1 : ((nodesA ns).drop (0 + (IntKind.wrap .i64 (1 + R)).toNat * 25)).take 25 = nodeA x := by rw [Nat.zero_add]; exact nodesA_node hx
  have hone : oneL (nodeA x) = true := nodeA_one hxo
  have htop : topL (nodeA x) = 0 := nodeA_top0 hxo
  have c1 : ∀ (f : FuncId) (t : Bool), evCall TE (m + 59) f (.fn 6 [] []) [.agg [.sl (nodesA (ns.set (IntKind.wrap .i64 (1 + R)).toNat { x with gen := y.gen })) ns.length t, .int .u32 gen]] ⟨[], []⟩ = some (.ret (.bool false), ⟨[], []⟩) := hC
  have h1l : (1 : Int) < ns.length := by omega
  have hcy : (nodesA ns)[1 * 25 + 1]? = some (.int .u32 y.gen) := nodesA_cell hy 1 (by decide)
  have hone2 : oneL (nodeA { x with gen := y.gen }) = true := nodeA_one hxo
  have htop2 : topL (nodeA { x with gen := y.gen }) = 0 := nodeA_top0 hxo
  have hoks : ∀ w9 ∈ ns.set (IntKind.wrap .i64 (1 + R)).toNat { x with gen := y.gen }, w9.ok := by
    intro z hz
    rcases List.mem_or_eq_of_mem_set hz with hz | rfl
    · exact hok z hz
    · exact hxo
  have hver : (nodesA ns).length + 1 = (nodesA (ns.set (IntKind.wrap .i64 (1 + R)).toNat { x with gen := y.gen })).length + 1 := by rw [nodesA_len, nodesA_len, List.length_set]
  have hsp : splice (nodeA x) 0 (nodeA { x with gen := y.gen }) = nodeA { x with gen := y.gen } := rfl
  clear hC
  refine call_clean (fn := Try.f4) rfl Try.func4 rfl rfl rfl rfl rfl (Nat.le_of_ble_eq_true rfl) ?_
  conv => whnf
  with_reducible refine ⟨_, _, cG _ _, ?_⟩
  conv => whnf
  with_reducible refine ⟨_, _, cK _ _, ?_⟩
  conv => whnf
  (refine runK_ret (happ rfl rfl) ?_)
  conv => whnf
  (refine runK_ret (hrem rfl rfl) ?_)
  conv => whnf
  (refine runK_ret (ev_indexRsl (sz := 25) rfl rfl rfl rfl h0 h1) ?_)
  conv => whnf
  (refine runK_if rfl (runK_cells rfl hc1 hd1 (runK_ret rfl ?_)))
  conv => whnf
  (refine runK_store (z := 25) rfl rfl rfl rfl hone rfl rfl rfl (Nat.le_of_ble_eq_true rfl) (.inl rfl) ?_)
  conv => whnf
  (refine listK_of (if_pos (Nat.le_trans (Nat.le_of_eq htop) (Nat.zero_le _))) ?_)
  conv => whnf
  ((with_reducible cases z0 : how.tmod (Int.ofNat 5) == Int.ofNat 0) <;>     try exact Bool.noConfusion (Eq.trans (Eq.symm z0) q0))
  conv => whnf
  ((with_reducible cases z1 : how.tmod (Int.ofNat 5) == Int.ofNat 1) <;>     try exact Bool.noConfusion (Eq.trans (Eq.symm z1) q1))
  conv => whnf
  ((with_reducible cases z2 : how.tmod (Int.ofNat 5) == Int.ofNat 2) <;>     try exact Bool.noConfusion (Eq.trans (Eq.symm z2) q2))
  conv => whnf
  ((with_reducible cases z3 : how.tmod (Int.ofNat 5) == Int.ofNat 3) <;>     try exact Bool.noConfusion (Eq.trans (Eq.symm z3) q3))
  conv => whnf
  ((with_reducible cases z4 : IntKind.i64.wrap (Int.ofNat 1 + R) == Int.ofNat 1) <;>     try exact Bool.noConfusion (Eq.trans (Eq.symm z4) hn))
  conv => whnf
  ((with_reducible cases z5 : x.kind == Int.ofNat 0) <;> try exact Bool.noConfusion (Eq.trans (Eq.symm z5) hk))
  conv => whnf
  (refine runK_ret (ev_indexRsl (sz := 25) (i := 1) rfl rfl rfl rfl (by decide) h1l) ?_)
  conv => whnf
  (refine runK_if rfl (runK_cell rfl hcy (runK_ret rfl ?_)))
  conv => whnf
  (refine runK_ret (ev_indexRsl (sz := 25) rfl rfl rfl rfl h0 h1) ?_)
  conv => whnf
  (refine runK_store (z := 25) (vs := nodeA { x with gen := y.gen }) rfl rfl rfl rfl hone2 rfl rfl rfl hc1 (.inl rfl) ?_)
  conv => whnf
  (refine     listK_of (splice_nodes0 (k := 0) (x := x) (x' := { x with gen := y.gen }) hx (Nat.le_of_ble_eq_true rfl) hsp) ?_)
  conv => whnf
  (refine listK_of (if_pos (Nat.le_trans (Nat.le_of_eq htop) (Nat.zero_le _))) ?_)
  conv => whnf
  (refine     ⟨_, _,       call_lend rfl rfl         (lend_tree (l := ns.set (IntKind.wrap .i64 (1 + R)).toNat { x with gen := y.gen }) rfl hver hoks           (List.length_set ..) rfl)         rfl rfl (c1 _ _),       ?_⟩)
  conv => whnf
  with_reducible refine ⟨_, _, cL _ _, ?_⟩
  conv => whnf
  rfl
end Go.Proofs.Ytnfkpnfafekflaa.Ab
/- Over the engine: the law NodesSpoil. -/
namespace Go.Proofs.Ytnfkpnfafekflaa.Ab
open Go Go.RowKit

set_option maxRecDepth 100000
/-- A node that is lent. -/
def lendN (deep : List AV → List AV) (bs : List AB) (x : NodeS) : NodeS := { x with data := lendV deep bs x.data, list := lendV deep bs x.list }
theorem lendVL_app {deep : List AV → List AV} {bs : List AB} : ∀ a b : List AV, lendVL deep bs (a ++ b) = lendVL deep bs a ++ lendVL deep bs b
  | [], _ => rfl
  | v :: r, b => by
    show lendV deep bs v :: lendVL deep bs (r ++ b) = _
    rw [lendVL_app r b]
    rfl
theorem lendVL_node (deep : List AV → List AV) (bs : List AB) (x : NodeS) : lendVL deep bs (nodeA x) = nodeA (lendN deep bs x) := rfl
theorem lendVL_nodes (deep : List AV → List AV) (bs : List AB) : ∀ l : List NodeS, lendVL deep bs (nodesA l) = nodesA (l.map (lendN deep bs))
  | [] => rfl
  | x :: r => by
    show lendVL deep bs (nodeA x ++ nodesA r) = nodeA (lendN deep bs x) ++ nodesA (r.map (lendN deep bs))
    rw [lendVL_app, lendVL_node, lendVL_nodes deep bs r]
theorem lendN_ok {deep : List AV → List AV} {bs : List AB} {x : NodeS} (hx : x.ok) : lendN deep bs x = x := by
  unfold lendN
  rw [lendV_clean _ (rowOk_clean hx.1), lendV_clean _ (entsOk_clean hx.2)]
theorem lendN_set {deep : List AV → List AV} {bs : List AB} {l : List NodeS} {k : Nat} {x : NodeS} (h : ∀ y ∈ l, y.ok) : (l.set k x).map (lendN deep bs) = l.set k (lendN deep bs x) := by
  rw [List.map_set]
  congr 1
  exact (List.map_congr_left fun y hy => lendN_ok (h y hy)).trans (List.map_id l)
/-- A tree whose nodes stand in a block, and rows of these in others, is lent. -/
theorem lend_treeX {bs : List AB} {b n ver : Nat} {cap : Option Nat} {l l' : List NodeS} {i : BI} {g : Int} (hb : bs[b]? = some (.cells (nodesA l) i)) (hv : ver = verA i (nodesA l).length) (hcl : i.cl = false) (hm : l.map (lendN (lendL 2 bs) bs) = l') (hc : ∀ x ∈ l', x.ok) (hl : l.length = n) (hz : i.sz = 25) : lendL 4 bs [.agg [.rsl b 0 n cap ver, .int .u32 g]] = [.agg [.sl (nodesA l') n (tightA cap n), .int .u32 g]] := by
  have hd : lentC (lendL 3 bs) (nodesA l) i = some (nodesA l') := by
    have e : lendL 3 bs (nodesA l) = nodesA l' := by
      show lendVL (lendL 2 bs) bs (nodesA l) = _
      rw [lendVL_nodes, hm]
    unfold lentC
    rw [hcl, e, nodesA_cleanO hc, nodesA_len, nodesA_len, ← hm, List.length_map]
    simp
  show [AV.agg [lendV (lendL 3 bs) bs (.rsl b 0 n cap ver), .int .u32 g]] = _
  simp only [lendV, hb]
  rw [if_pos ⟨hv, by rw [nodesA_len, hz, hl]; omega, by rw [hz]; decide⟩, hd]
  simp [nodesA_len, hz, hl]
theorem entriesA_app (a b : List EntryS) : entriesA (a ++ b) = entriesA a ++ entriesA b := by
  unfold entriesA
  rw [List.map_append, List.flatten_append]
theorem entryA_clean (e : EntryS) : cleanL (entryA e) = true := rfl
theorem entriesA_clean (l : List EntryS) : cleanL (entriesA l) = true := cleanL_flatten l fun e _ => entryA_clean e
/-- A node whose entries stand in a block. -/
theorem lendN_ents {m : Nat} {bs : List AB} {x : NodeS} {B n v : Nat} {c : List AV} {l : List EntryS} {i : BI} (hx : rowOk .u8 x.data x.bytes) (hb : bs[B]? = some (.cells c i)) (hc : c = entriesA l) (hv : v = verA i c.length) (hn : n = l.length) (hz : i.sz = 3) (hl : x.list = .rsl B 0 n none v) : lendN (lendL m bs) bs x = { x with list := .sl (entriesA l) l.length false } := by
  subst hc hn
  unfold lendN
  rw [lendV_clean _ (rowOk_clean hx), hl, lendV_row hb hv (entriesA_clean l) (by rw [entriesA_len, hz]) (by rw [hz]; decide)]
  rfl
theorem nodeA_topL {x : NodeS} (hx : rowOk .u8 x.data x.bytes) : topL (nodeA x) = x.list.top := by
  have h0 : x.data.top = 0 := clean_top _ (rowOk_clean hx)
  show max 0 (max 0 (max 0 (max 0 (max 0 (max 0 (max 0 (max 0 (max 0 (max 0 (max 0 (max 0 (max x.data.top (max 0 (max 0 (max 0 (max 0 (max 0 (max 0 (max 0 (max 0 (max 0 (max x.list.top (max 0 (max 0 0)))))))))))))))))))))))) = _
  rw [h0]
  omega
theorem nodeA_oneL {x : NodeS} (h1 : oneA x.data = true) (h2 : oneA x.list = true) : oneL (nodeA x) = true := by
  show (true && (true && (true && (true && (true && (true && (true && (true && (true && (true && (true && (true && (oneA x.data && (true && (true && (true && (true && (true && (true && (true && (true && (true && (oneA x.list && (true && (true && true))))))))))))))))))))))))) = true
  rw [h1, h2]
  rfl
theorem rowOk_one {k : IntKind} {v : AV} {l : List Int} (h : rowOk k v l) : oneA v = true := by
  rcases h with ⟨rfl, _⟩ | ⟨t, rfl⟩ <;> rfl
set_option maxHeartbeats 8000000 in
theorem spoil4_b (m : Nat) (from_ : FuncId) (h : H) (ns : List NodeS) (t : Bool) (gen at_ how : Int) (hG : ∀ (f : FuncId) (h : H), evCall TE (m + 59) f (.fn 5 [] []) [.agg [.sl (nodesA ns) ns.length t, .int .u32 gen]] h = some (.ret (.bool false), h)) (hK : ∀ (f : FuncId) (h : H), evCall TE (m + 59) f (.fn 6 [] []) [.agg [.sl (nodesA ns) ns.length t, .int .u32 gen]] h = some (.ret (.bool true), h))
    (hlen : ns.length ≤ 1025) (hlen2 : 2 ≤ ns.length) (R : Int) (hR : (IntKind.wrap .i64 at_).tmod (IntKind.wrap .i64 ((ns.length : Int) - 1)) = R) (h0 : 0 ≤ (IntKind.wrap .i64 (1 + R))) (h1 : (IntKind.wrap .i64 (1 + R)) < ns.length) (kd ge mo us ng li xrs xrn xws xwn ts tn : Int) (da : AV) (by_ : List Int) (vf : Nat → Int) (ta : List UInt8) (ls : AV) (es : List EntryS) (pa nx : Int) (hx : ns[(IntKind.wrap .i64 (1 + R)).toNat]? = some ⟨kd, ge, mo, us, ng, li, xrs, xrn, xws, xwn, ts, tn, da, by_, vf, ta, ls, es, pa, nx⟩) (hda : rowOk .u8 da by_) (hok : ∀ y ∈ ns, y.ok) (q0 : (how.tmod 5 == 0) = false) (q1 : (how.tmod 5 == 1) = false) (q2 : (how.tmod 5 == 2) = false) (q3 : (how.tmod 5 == 3) = false) (tt : Bool) (hls : ls = .sl (entriesA es) es.length tt) (hesn : es ≠ []) (hel : es.length * 32 ≤ 140737488351232)
    (hC : ∀ (Y : NodeS) (f : FuncId) (t : Bool), Y = (⟨kd, ge, mo, us, ng, li, xrs, xrn, xws, xwn, ts, tn, da, by_, vf, ta, .sl (entriesA (es ++ [(⟨[110, 111, 32, 115, 117, 99, 104, 32, 110, 111, 100, 101], (ns.length : Int), nx⟩ : EntryS)])) (es ++ [(⟨[110, 111, 32, 115, 117, 99, 104, 32, 110, 111, 100, 101], (ns.length : Int), nx⟩ : EntryS)]).length false, (es ++ [(⟨[110, 111, 32, 115, 117, 99, 104, 32, 110, 111, 100, 101], (ns.length : Int), nx⟩ : EntryS)]), pa, IntKind.wrap .u64 (nx + 1)⟩ : NodeS) → evCall TE (m + 59) f (.fn 6 [] []) [.agg [.sl (nodesA (ns.set (IntKind.wrap .i64 (1 + R)).toNat Y)) ns.length t, .int .u32 gen]] ⟨[], []⟩ = some (.ret (.bool false), ⟨[], []⟩)) : evCall TE (m + 60) from_ (.fn 4 [] []) [.agg [.sl (nodesA ns) ns.length t, .int .u32 gen], .int .u16 at_, .int .u8 how] h = some (.ret (.bool true), h) := by
  subst hls
  have cG : ∀ (f : FuncId) (h : H), (evAll TE (m + 59)).1 f (.fn 5 [] []) [.agg [.sl (nodesA ns) ns.length t, .int .u32 gen]] h = some (.ret (.bool false), h) := hG
  have cK : ∀ (f : FuncId) (h : H), (evAll TE (m + 59)).1 f (.fn 6 [] []) [.agg [.sl (nodesA ns) ns.length t, .int .u32 gen]] h = some (.ret (.bool true), h) := hK
  have cL : ∀ (f : FuncId) (h : H), (evAll TE (m + 59)).1 f (.fn 7 [] []) [] h = some (.ret (.bool true), h) := fun f h => lives14_c (m + 9) f h
  clear hG hK
  have hrem : ∀ {nid : Nat} {ρ : Operand → AV} {t w : TypeId} {a b : Operand}, ρ a = .int .i64 (IntKind.wrap .i64 at_) → ρ b = .int .i64 (IntKind.wrap .i64 ((ns.length : Int) - 1)) → evOp TE.P TE.flat nid (.binOp .rem t a b w) ρ = .ret (.int .i64 R, .none) := fun ha hb => by
    rw [← hR]
    exact ev_rem ha hb (by rw [wrap64 (by omega) (by omega)]; omega)
  have happ : ∀ {nid : Nat} {ρ : Operand → AV} {a x : Operand}, ρ a = .sl0 → ρ x = .sl (nodesA ns) ns.length t → evOp TE.P TE.flat nid (.call { callee := .builtin .append, args := #[a, x], argTypes := #[22, 22] }) ρ = .ret (.rsl nid 0 ns.length none ((nodesA ns).length + 1), .new (.cells (nodesA ns) ⟨false, 25, true, true⟩)) := fun ha hx => (ev_appendNil (P := TE.P) (flat := TE.flat) (by_ := 144) rfl rfl rfl rfl rfl ha hx (nodesA_len ns) (by omega) (by omega) (by omega) (by decide) rfl).trans rfl
  have hxo : NodeS.ok (⟨kd, ge, mo, us, ng, li, xrs, xrn, xws, xwn, ts, tn, da, by_, vf, ta, .sl (entriesA es) es.length tt, es, pa, nx⟩ : NodeS) := ⟨hda, .inr ⟨tt, rfl⟩⟩
  have hc1 : 0 + (IntKind.wrap .i64 (1 + R)).toNat * 25 + 25 ≤ (nodesA ns).length := by rw [nodesA_len]; omega
  have hd1 : ((nodesA ns).drop (0 + (IntKind.wrap .i64 (1 + R)).toNat * 25)).take 25 = nodeA (⟨kd, ge, mo, us, ng, li, xrs, xrn, xws, xwn, ts, tn, da, by_, vf, ta, .sl (entriesA es) es.length tt, es, pa, nx⟩ : NodeS) := by rw [Nat.zero_add]; exact nodesA_node hx
  have hone : oneL (nodeA (⟨kd, ge, mo, us, ng, li, xrs, xrn, xws, xwn, ts, tn, da, by_, vf, ta, .sl (entriesA es) es.length tt, es, pa, nx⟩ : NodeS)) = true := nodeA_one hxo
  have htop : topL (nodeA (⟨kd, ge, mo, us, ng, li, xrs, xrn, xws, xwn, ts, tn, da, by_, vf, ta, .sl (entriesA es) es.length tt, es, pa, nx⟩ : NodeS)) = 0 := nodeA_top0 hxo
  have hesl : es.length ≠ 0 := fun h => hesn (List.eq_nil_of_length_eq_zero h)
  have happE : ∀ {nid : Nat} {ρ : Operand → AV} {a x : Operand}, ρ a = .sl0 → ρ x = .sl (entriesA es) es.length tt → evOp TE.P TE.flat nid (.call { callee := .builtin .append, args := #[a, x], argTypes := #[42, 42] }) ρ = .ret (.rsl nid 0 es.length none ((entriesA es).length + 1), .new (.cells (entriesA es) ⟨true, 3, true, true⟩)) := fun ha hx => (ev_appendNil (P := TE.P) (flat := TE.flat) (by_ := 32) rfl rfl rfl rfl rfl ha hx (entriesA_len es) hesl (by omega) (by omega) (by decide) rfl).trans rfl
  have hb1 : es.length + 1 ≤ 140737488355328 := by omega
  have hb2 : (es.length + 1) * 32 ≤ 140737488355328 := by omega
  have c1 : ∀ (f : FuncId) (t : Bool), evCall TE (m + 59) f (.fn 6 [] []) [.agg [.sl (nodesA (ns.set (IntKind.wrap .i64 (1 + R)).toNat (⟨kd, ge, mo, us, ng, li, xrs, xrn, xws, xwn, ts, tn, da, by_, vf, ta, .sl (entriesA (es ++ [(⟨[110, 111, 32, 115, 117, 99, 104, 32, 110, 111, 100, 101], (ns.length : Int), nx⟩ : EntryS)])) (es ++ [(⟨[110, 111, 32, 115, 117, 99, 104, 32, 110, 111, 100, 101], (ns.length : Int), nx⟩ : EntryS)]).length false, (es ++ [(⟨[110, 111, 32, 115, 117, 99, 104, 32, 110, 111, 100, 101], (ns.length : Int), nx⟩ : EntryS)]), pa, IntKind.wrap .u64 (nx + 1)⟩ : NodeS))) ns.length t, .int .u32 gen]] ⟨[], []⟩ = some (.ret (.bool false), ⟨[], []⟩) := fun f t => hC _ f t rfl
  have hone2 : oneL (nodeA (⟨kd, ge, mo, us, ng, li, xrs, xrn, xws, xwn, ts, tn, da, by_, vf, ta, .rsl 5 0 (es.length + 1) none ((entriesA es ++ entryA (⟨[110, 111, 32, 115, 117, 99, 104, 32, 110, 111, 100, 101], (ns.length : Int), nx⟩ : EntryS)).length + 1), (es ++ [(⟨[110, 111, 32, 115, 117, 99, 104, 32, 110, 111, 100, 101], (ns.length : Int), nx⟩ : EntryS)]), pa, IntKind.wrap .u64 (nx + 1)⟩ : NodeS)) = true := nodeA_oneL (rowOk_one hda) rfl
  have htop2 : ¬ topL (nodeA (⟨kd, ge, mo, us, ng, li, xrs, xrn, xws, xwn, ts, tn, da, by_, vf, ta, .rsl 5 0 (es.length + 1) none ((entriesA es ++ entryA (⟨[110, 111, 32, 115, 117, 99, 104, 32, 110, 111, 100, 101], (ns.length : Int), nx⟩ : EntryS)).length + 1), (es ++ [(⟨[110, 111, 32, 115, 117, 99, 104, 32, 110, 111, 100, 101], (ns.length : Int), nx⟩ : EntryS)]), pa, IntKind.wrap .u64 (nx + 1)⟩ : NodeS)) ≤ 0 + 1 + 1 := by
    have : topL (nodeA (⟨kd, ge, mo, us, ng, li, xrs, xrn, xws, xwn, ts, tn, da, by_, vf, ta, .rsl 5 0 (es.length + 1) none ((entriesA es ++ entryA (⟨[110, 111, 32, 115, 117, 99, 104, 32, 110, 111, 100, 101], (ns.length : Int), nx⟩ : EntryS)).length + 1), (es ++ [(⟨[110, 111, 32, 115, 117, 99, 104, 32, 110, 111, 100, 101], (ns.length : Int), nx⟩ : EntryS)]), pa, IntKind.wrap .u64 (nx + 1)⟩ : NodeS)) = 5 + 1 := nodeA_topL hda
    omega
  have hYo : NodeS.ok (⟨kd, ge, mo, us, ng, li, xrs, xrn, xws, xwn, ts, tn, da, by_, vf, ta, .sl (entriesA (es ++ [(⟨[110, 111, 32, 115, 117, 99, 104, 32, 110, 111, 100, 101], (ns.length : Int), nx⟩ : EntryS)])) (es ++ [(⟨[110, 111, 32, 115, 117, 99, 104, 32, 110, 111, 100, 101], (ns.length : Int), nx⟩ : EntryS)]).length false, (es ++ [(⟨[110, 111, 32, 115, 117, 99, 104, 32, 110, 111, 100, 101], (ns.length : Int), nx⟩ : EntryS)]), pa, IntKind.wrap .u64 (nx + 1)⟩ : NodeS) := ⟨hda, .inr ⟨false, rfl⟩⟩
  have hoks : ∀ w9 ∈ ns.set (IntKind.wrap .i64 (1 + R)).toNat (⟨kd, ge, mo, us, ng, li, xrs, xrn, xws, xwn, ts, tn, da, by_, vf, ta, .sl (entriesA (es ++ [(⟨[110, 111, 32, 115, 117, 99, 104, 32, 110, 111, 100, 101], (ns.length : Int), nx⟩ : EntryS)])) (es ++ [(⟨[110, 111, 32, 115, 117, 99, 104, 32, 110, 111, 100, 101], (ns.length : Int), nx⟩ : EntryS)]).length false, (es ++ [(⟨[110, 111, 32, 115, 117, 99, 104, 32, 110, 111, 100, 101], (ns.length : Int), nx⟩ : EntryS)]), pa, IntKind.wrap .u64 (nx + 1)⟩ : NodeS), w9.ok := set_ok_all hok hYo
  have hver : (nodesA ns).length + 1 = (nodesA (ns.set (IntKind.wrap .i64 (1 + R)).toNat (⟨kd, ge, mo, us, ng, li, xrs, xrn, xws, xwn, ts, tn, da, by_, vf, ta, .rsl 5 0 (es.length + 1) none ((entriesA es ++ entryA (⟨[110, 111, 32, 115, 117, 99, 104, 32, 110, 111, 100, 101], (ns.length : Int), nx⟩ : EntryS)).length + 1), (es ++ [(⟨[110, 111, 32, 115, 117, 99, 104, 32, 110, 111, 100, 101], (ns.length : Int), nx⟩ : EntryS)]), pa, IntKind.wrap .u64 (nx + 1)⟩ : NodeS))).length + 1 := by rw [nodesA_len, nodesA_len, List.length_set]
  have hmap : ∀ (bs : List AB) (i : BI), bs[5]? = some (.cells (entriesA es ++ entryA (⟨[110, 111, 32, 115, 117, 99, 104, 32, 110, 111, 100, 101], (ns.length : Int), nx⟩ : EntryS)) i) → i.sz = 3 → i.opn = true → (ns.set (IntKind.wrap .i64 (1 + R)).toNat (⟨kd, ge, mo, us, ng, li, xrs, xrn, xws, xwn, ts, tn, da, by_, vf, ta, .rsl 5 0 (es.length + 1) none ((entriesA es ++ entryA (⟨[110, 111, 32, 115, 117, 99, 104, 32, 110, 111, 100, 101], (ns.length : Int), nx⟩ : EntryS)).length + 1), (es ++ [(⟨[110, 111, 32, 115, 117, 99, 104, 32, 110, 111, 100, 101], (ns.length : Int), nx⟩ : EntryS)]), pa, IntKind.wrap .u64 (nx + 1)⟩ : NodeS)).map (lendN (lendL 2 bs) bs) = ns.set (IntKind.wrap .i64 (1 + R)).toNat (⟨kd, ge, mo, us, ng, li, xrs, xrn, xws, xwn, ts, tn, da, by_, vf, ta, .sl (entriesA (es ++ [(⟨[110, 111, 32, 115, 117, 99, 104, 32, 110, 111, 100, 101], (ns.length : Int), nx⟩ : EntryS)])) (es ++ [(⟨[110, 111, 32, 115, 117, 99, 104, 32, 110, 111, 100, 101], (ns.length : Int), nx⟩ : EntryS)]).length false, (es ++ [(⟨[110, 111, 32, 115, 117, 99, 104, 32, 110, 111, 100, 101], (ns.length : Int), nx⟩ : EntryS)]), pa, IntKind.wrap .u64 (nx + 1)⟩ : NodeS) := by
    intro bs i hb hz ho
    rw [lendN_set hok]
    congr 1
    exact lendN_ents (l := (es ++ [(⟨[110, 111, 32, 115, 117, 99, 104, 32, 110, 111, 100, 101], (ns.length : Int), nx⟩ : EntryS)])) hda hb (by simp [entriesA]) (by unfold verA; rw [ho]; rfl) (by simp) hz rfl
  clear hC
  refine call_clean (fn := Try.f4) rfl Try.func4 rfl rfl rfl rfl rfl (Nat.le_of_ble_eq_true rfl) ?_
  conv => whnf
  with_reducible refine ⟨_, _, cG _ _, ?_⟩
  conv => whnf
  with_reducible refine ⟨_, _, cK _ _, ?_⟩
  conv => whnf
  (refine runK_ret (happ rfl rfl) ?_)
  conv => whnf
  (refine runK_ret (hrem rfl rfl) ?_)
  conv => whnf
  (refine runK_ret (ev_indexRsl (sz := 25) rfl rfl rfl rfl h0 h1) ?_)
  conv => whnf
  (refine runK_if rfl (runK_cells rfl hc1 hd1 (runK_ret rfl ?_)))
  conv => whnf
  (refine runK_store (z := 25) rfl rfl rfl rfl hone rfl rfl rfl (Nat.le_of_ble_eq_true rfl) (.inl rfl) ?_)
  conv => whnf
  (refine listK_of (if_pos (Nat.le_trans (Nat.le_of_eq htop) (Nat.zero_le _))) ?_)
  conv => whnf
  ((with_reducible cases z0 : how.tmod (Int.ofNat 5) == Int.ofNat 0) <;>     try exact Bool.noConfusion (Eq.trans (Eq.symm z0) q0))
  conv => whnf
  ((with_reducible cases z1 : how.tmod (Int.ofNat 5) == Int.ofNat 1) <;>     try exact Bool.noConfusion (Eq.trans (Eq.symm z1) q1))
  conv => whnf
  ((with_reducible cases z2 : how.tmod (Int.ofNat 5) == Int.ofNat 2) <;>     try exact Bool.noConfusion (Eq.trans (Eq.symm z2) q2))
  conv => whnf
  ((with_reducible cases z3 : how.tmod (Int.ofNat 5) == Int.ofNat 3) <;>     try exact Bool.noConfusion (Eq.trans (Eq.symm z3) q3))
  conv => whnf
  (refine runK_ret (happE rfl rfl) ?_)
  conv => whnf
  (refine runK_if ⟨hb1, hb2, by decide, rfl⟩ ?_)
  conv => whnf
  (refine runK_if ⟨rfl, rfl, rfl, rfl, .inr rfl⟩ (runK_if ⟨rfl, entriesA_len _⟩ (runK_ret rfl ?_)))
  conv => whnf
  (refine ⟨by kernel_rfl, ?_⟩)
  conv => whnf
  (refine runK_ret (ev_indexRsl (sz := 25) rfl rfl rfl rfl h0 h1) ?_)
  conv => whnf
  (refine     runK_store (z := 25) (vs :=       nodeA         (⟨kd, ge, mo, us, ng, li, xrs, xrn, xws, xwn, ts, tn, da, by_, vf, ta,             .rsl 5 0 (es.length + 1) none               ((entriesA es ++                     entryA                       (⟨[110, 111, 32, 115, 117, 99, 104, 32, 110, 111, 100, 101], (ns.length : Int), nx⟩ :                         EntryS)).length +                 1),             (es ++ [(⟨[110, 111, 32, 115, 117, 99, 104, 32, 110, 111, 100, 101], (ns.length : Int), nx⟩ : EntryS)]), pa,             IntKind.wrap .u64 (nx + 1)⟩ :           NodeS))       rfl rfl rfl rfl hone2 rfl rfl rfl hc1 (.inl rfl) ?_)
  conv => whnf
  (refine     listK_of       (splice_nodes0 (k := 0) (x :=         (⟨kd, ge, mo, us, ng, li, xrs, xrn, xws, xwn, ts, tn, da, by_, vf, ta, .sl (entriesA es) es.length tt, es, pa,             nx⟩ :           NodeS))         (x' :=         (⟨kd, ge, mo, us, ng, li, xrs, xrn, xws, xwn, ts, tn, da, by_, vf, ta,             .rsl 5 0 (es.length + 1) none               ((entriesA es ++                     entryA                       (⟨[110, 111, 32, 115, 117, 99, 104, 32, 110, 111, 100, 101], (ns.length : Int), nx⟩ :                         EntryS)).length +                 1),             (es ++ [(⟨[110, 111, 32, 115, 117, 99, 104, 32, 110, 111, 100, 101], (ns.length : Int), nx⟩ : EntryS)]), pa,             IntKind.wrap .u64 (nx + 1)⟩ :           NodeS))         hx (Nat.le_of_ble_eq_true rfl) rfl)       ?_)
  conv => whnf
  (refine listK_of (if_neg htop2) ?_)
  conv => whnf
  (refine     ⟨_, _,       call_lend rfl rfl         (lend_treeX (l :=           ns.set (IntKind.wrap .i64 (1 + R)).toNat             (⟨kd, ge, mo, us, ng, li, xrs, xrn, xws, xwn, ts, tn, da, by_, vf, ta,                 .rsl 5 0 (es.length + 1) none                   ((entriesA es ++                         entryA                           (⟨[110, 111, 32, 115, 117, 99, 104, 32, 110, 111, 100, 101], (ns.length : Int), nx⟩ :                             EntryS)).length +                     1),                 (es ++ [(⟨[110, 111, 32, 115, 117, 99, 104, 32, 110, 111, 100, 101], (ns.length : Int), nx⟩ : EntryS)]),                 pa, IntKind.wrap .u64 (nx + 1)⟩ :               NodeS))           (l' :=           ns.set (IntKind.wrap .i64 (1 + R)).toNat             (⟨kd, ge, mo, us, ng, li, xrs, xrn, xws, xwn, ts, tn, da, by_, vf, ta,                 .sl                   (entriesA                     (es ++                       [(⟨[110, 111, 32, 115, 117, 99, 104, 32, 110, 111, 100, 101], (ns.length : Int), nx⟩ : EntryS)]))                   (es ++                       [(⟨[110, 111, 32, 115, 117, 99, 104, 32, 110, 111, 100, 101], (ns.length : Int), nx⟩ :                           EntryS)]).length                   false,                 (es ++ [(⟨[110, 111, 32, 115, 117, 99, 104, 32, 110, 111, 100, 101], (ns.length : Int), nx⟩ : EntryS)]),                 pa, IntKind.wrap .u64 (nx + 1)⟩ :               NodeS))           rfl hver rfl (hmap _ _ rfl rfl rfl) hoks (List.length_set ..) rfl)         rfl rfl (c1 _ _),       ?_⟩)
  conv => whnf
  with_reducible refine ⟨_, _, cL _ _, ?_⟩
  conv => whnf
  rfl
set_option maxHeartbeats 8000000 in
theorem spoil4_nil (m : Nat) (from_ : FuncId) (h : H) (ns : List NodeS) (t : Bool) (gen at_ how : Int) (hG : ∀ (f : FuncId) (h : H), evCall TE (m + 59) f (.fn 5 [] []) [.agg [.sl (nodesA ns) ns.length t, .int .u32 gen]] h = some (.ret (.bool false), h)) (hK : ∀ (f : FuncId) (h : H), evCall TE (m + 59) f (.fn 6 [] []) [.agg [.sl (nodesA ns) ns.length t, .int .u32 gen]] h = some (.ret (.bool true), h))
    (hlen : ns.length ≤ 1025) (hlen2 : 2 ≤ ns.length) (R : Int) (hR : (IntKind.wrap .i64 at_).tmod (IntKind.wrap .i64 ((ns.length : Int) - 1)) = R) (h0 : 0 ≤ (IntKind.wrap .i64 (1 + R))) (h1 : (IntKind.wrap .i64 (1 + R)) < ns.length) (kd ge mo us ng li xrs xrn xws xwn ts tn : Int) (da : AV) (by_ : List Int) (vf : Nat → Int) (ta : List UInt8) (ls : AV) (es : List EntryS) (pa nx : Int) (hx : ns[(IntKind.wrap .i64 (1 + R)).toNat]? = some ⟨kd, ge, mo, us, ng, li, xrs, xrn, xws, xwn, ts, tn, da, by_, vf, ta, ls, es, pa, nx⟩) (hda : rowOk .u8 da by_) (hok : ∀ y ∈ ns, y.ok) (q0 : (how.tmod 5 == 0) = false) (q1 : (how.tmod 5 == 1) = false) (q2 : (how.tmod 5 == 2) = false) (q3 : (how.tmod 5 == 3) = false) (hls : ls = .sl0) (hes : es = [])
    (hC : ∀ (Y : NodeS) (f : FuncId) (t : Bool), Y = (⟨kd, ge, mo, us, ng, li, xrs, xrn, xws, xwn, ts, tn, da, by_, vf, ta, .sl (entriesA [(⟨[110, 111, 32, 115, 117, 99, 104, 32, 110, 111, 100, 101], (ns.length : Int), nx⟩ : EntryS)]) [(⟨[110, 111, 32, 115, 117, 99, 104, 32, 110, 111, 100, 101], (ns.length : Int), nx⟩ : EntryS)].length false, [(⟨[110, 111, 32, 115, 117, 99, 104, 32, 110, 111, 100, 101], (ns.length : Int), nx⟩ : EntryS)], pa, IntKind.wrap .u64 (nx + 1)⟩ : NodeS) → evCall TE (m + 59) f (.fn 6 [] []) [.agg [.sl (nodesA (ns.set (IntKind.wrap .i64 (1 + R)).toNat Y)) ns.length t, .int .u32 gen]] ⟨[], []⟩ = some (.ret (.bool false), ⟨[], []⟩)) : evCall TE (m + 60) from_ (.fn 4 [] []) [.agg [.sl (nodesA ns) ns.length t, .int .u32 gen], .int .u16 at_, .int .u8 how] h = some (.ret (.bool true), h) := by
  subst hls hes
  have cG : ∀ (f : FuncId) (h : H), (evAll TE (m + 59)).1 f (.fn 5 [] []) [.agg [.sl (nodesA ns) ns.length t, .int .u32 gen]] h = some (.ret (.bool false), h) := hG
  have cK : ∀ (f : FuncId) (h : H), (evAll TE (m + 59)).1 f (.fn 6 [] []) [.agg [.sl (nodesA ns) ns.length t, .int .u32 gen]] h = some (.ret (.bool true), h) := hK
  have cL : ∀ (f : FuncId) (h : H), (evAll TE (m + 59)).1 f (.fn 7 [] []) [] h = some (.ret (.bool true), h) := fun f h => lives14_c (m + 9) f h
  clear hG hK
  have hrem : ∀ {nid : Nat} {ρ : Operand → AV} {t w : TypeId} {a b : Operand}, ρ a = .int .i64 (IntKind.wrap .i64 at_) → ρ b = .int .i64 (IntKind.wrap .i64 ((ns.length : Int) - 1)) → evOp TE.P TE.flat nid (.binOp .rem t a b w) ρ = .ret (.int .i64 R, .none) := fun ha hb => by
    rw [← hR]
    exact ev_rem ha hb (by rw [wrap64 (by omega) (by omega)]; omega)
  have happ : ∀ {nid : Nat} {ρ : Operand → AV} {a x : Operand}, ρ a = .sl0 → ρ x = .sl (nodesA ns) ns.length t → evOp TE.P TE.flat nid (.call { callee := .builtin .append, args := #[a, x], argTypes := #[22, 22] }) ρ = .ret (.rsl nid 0 ns.length none ((nodesA ns).length + 1), .new (.cells (nodesA ns) ⟨false, 25, true, true⟩)) := fun ha hx => (ev_appendNil (P := TE.P) (flat := TE.flat) (by_ := 144) rfl rfl rfl rfl rfl ha hx (nodesA_len ns) (by omega) (by omega) (by omega) (by decide) rfl).trans rfl
  have hxo : NodeS.ok (⟨kd, ge, mo, us, ng, li, xrs, xrn, xws, xwn, ts, tn, da, by_, vf, ta, .sl0, [], pa, nx⟩ : NodeS) := ⟨hda, .inl ⟨rfl, rfl⟩⟩
  have hc1 : 0 + (IntKind.wrap .i64 (1 + R)).toNat * 25 + 25 ≤ (nodesA ns).length := by rw [nodesA_len]; omega
  have hd1 : ((nodesA ns).drop (0 + (IntKind.wrap .i64 (1 + R)).toNat * 25)).take 25 = nodeA (⟨kd, ge, mo, us, ng, li, xrs, xrn, xws, xwn, ts, tn, da, by_, vf, ta, .sl0, [], pa, nx⟩ : NodeS) := by rw [Nat.zero_add]; exact nodesA_node hx
  have hone : oneL (nodeA (⟨kd, ge, mo, us, ng, li, xrs, xrn, xws, xwn, ts, tn, da, by_, vf, ta, .sl0, [], pa, nx⟩ : NodeS)) = true := nodeA_one hxo
  have htop : topL (nodeA (⟨kd, ge, mo, us, ng, li, xrs, xrn, xws, xwn, ts, tn, da, by_, vf, ta, .sl0, [], pa, nx⟩ : NodeS)) = 0 := nodeA_top0 hxo
  have c1 : ∀ (f : FuncId) (t : Bool), evCall TE (m + 59) f (.fn 6 [] []) [.agg [.sl (nodesA (ns.set (IntKind.wrap .i64 (1 + R)).toNat (⟨kd, ge, mo, us, ng, li, xrs, xrn, xws, xwn, ts, tn, da, by_, vf, ta, .sl (entriesA [(⟨[110, 111, 32, 115, 117, 99, 104, 32, 110, 111, 100, 101], (ns.length : Int), nx⟩ : EntryS)]) [(⟨[110, 111, 32, 115, 117, 99, 104, 32, 110, 111, 100, 101], (ns.length : Int), nx⟩ : EntryS)].length false, [(⟨[110, 111, 32, 115, 117, 99, 104, 32, 110, 111, 100, 101], (ns.length : Int), nx⟩ : EntryS)], pa, IntKind.wrap .u64 (nx + 1)⟩ : NodeS))) ns.length t, .int .u32 gen]] ⟨[], []⟩ = some (.ret (.bool false), ⟨[], []⟩) := fun f t => hC _ f t rfl
  have hone2 : oneL (nodeA (⟨kd, ge, mo, us, ng, li, xrs, xrn, xws, xwn, ts, tn, da, by_, vf, ta, .rsl 12 0 1 none ((entryA (⟨[110, 111, 32, 115, 117, 99, 104, 32, 110, 111, 100, 101], (ns.length : Int), nx⟩ : EntryS)).length + 1), [(⟨[110, 111, 32, 115, 117, 99, 104, 32, 110, 111, 100, 101], (ns.length : Int), nx⟩ : EntryS)], pa, IntKind.wrap .u64 (nx + 1)⟩ : NodeS)) = true := nodeA_oneL (rowOk_one hda) rfl
  have htop2 : ¬ topL (nodeA (⟨kd, ge, mo, us, ng, li, xrs, xrn, xws, xwn, ts, tn, da, by_, vf, ta, .rsl 12 0 1 none ((entryA (⟨[110, 111, 32, 115, 117, 99, 104, 32, 110, 111, 100, 101], (ns.length : Int), nx⟩ : EntryS)).length + 1), [(⟨[110, 111, 32, 115, 117, 99, 104, 32, 110, 111, 100, 101], (ns.length : Int), nx⟩ : EntryS)], pa, IntKind.wrap .u64 (nx + 1)⟩ : NodeS)) ≤ 0 + 1 + 1 := by
    have : topL (nodeA (⟨kd, ge, mo, us, ng, li, xrs, xrn, xws, xwn, ts, tn, da, by_, vf, ta, .rsl 12 0 1 none ((entryA (⟨[110, 111, 32, 115, 117, 99, 104, 32, 110, 111, 100, 101], (ns.length : Int), nx⟩ : EntryS)).length + 1), [(⟨[110, 111, 32, 115, 117, 99, 104, 32, 110, 111, 100, 101], (ns.length : Int), nx⟩ : EntryS)], pa, IntKind.wrap .u64 (nx + 1)⟩ : NodeS)) = 12 + 1 := nodeA_topL hda
    omega
  have hYo : NodeS.ok (⟨kd, ge, mo, us, ng, li, xrs, xrn, xws, xwn, ts, tn, da, by_, vf, ta, .sl (entriesA [(⟨[110, 111, 32, 115, 117, 99, 104, 32, 110, 111, 100, 101], (ns.length : Int), nx⟩ : EntryS)]) [(⟨[110, 111, 32, 115, 117, 99, 104, 32, 110, 111, 100, 101], (ns.length : Int), nx⟩ : EntryS)].length false, [(⟨[110, 111, 32, 115, 117, 99, 104, 32, 110, 111, 100, 101], (ns.length : Int), nx⟩ : EntryS)], pa, IntKind.wrap .u64 (nx + 1)⟩ : NodeS) := ⟨hda, .inr ⟨false, rfl⟩⟩
  have hoks : ∀ w9 ∈ ns.set (IntKind.wrap .i64 (1 + R)).toNat (⟨kd, ge, mo, us, ng, li, xrs, xrn, xws, xwn, ts, tn, da, by_, vf, ta, .sl (entriesA [(⟨[110, 111, 32, 115, 117, 99, 104, 32, 110, 111, 100, 101], (ns.length : Int), nx⟩ : EntryS)]) [(⟨[110, 111, 32, 115, 117, 99, 104, 32, 110, 111, 100, 101], (ns.length : Int), nx⟩ : EntryS)].length false, [(⟨[110, 111, 32, 115, 117, 99, 104, 32, 110, 111, 100, 101], (ns.length : Int), nx⟩ : EntryS)], pa, IntKind.wrap .u64 (nx + 1)⟩ : NodeS), w9.ok := set_ok_all hok hYo
  have hver : (nodesA ns).length + 1 = (nodesA (ns.set (IntKind.wrap .i64 (1 + R)).toNat (⟨kd, ge, mo, us, ng, li, xrs, xrn, xws, xwn, ts, tn, da, by_, vf, ta, .rsl 12 0 1 none ((entryA (⟨[110, 111, 32, 115, 117, 99, 104, 32, 110, 111, 100, 101], (ns.length : Int), nx⟩ : EntryS)).length + 1), [(⟨[110, 111, 32, 115, 117, 99, 104, 32, 110, 111, 100, 101], (ns.length : Int), nx⟩ : EntryS)], pa, IntKind.wrap .u64 (nx + 1)⟩ : NodeS))).length + 1 := by rw [nodesA_len, nodesA_len, List.length_set]
  have hmap : ∀ (bs : List AB) (i : BI), bs[12]? = some (.cells (entryA (⟨[110, 111, 32, 115, 117, 99, 104, 32, 110, 111, 100, 101], (ns.length : Int), nx⟩ : EntryS)) i) → i.sz = 3 → i.opn = true → (ns.set (IntKind.wrap .i64 (1 + R)).toNat (⟨kd, ge, mo, us, ng, li, xrs, xrn, xws, xwn, ts, tn, da, by_, vf, ta, .rsl 12 0 1 none ((entryA (⟨[110, 111, 32, 115, 117, 99, 104, 32, 110, 111, 100, 101], (ns.length : Int), nx⟩ : EntryS)).length + 1), [(⟨[110, 111, 32, 115, 117, 99, 104, 32, 110, 111, 100, 101], (ns.length : Int), nx⟩ : EntryS)], pa, IntKind.wrap .u64 (nx + 1)⟩ : NodeS)).map (lendN (lendL 2 bs) bs) = ns.set (IntKind.wrap .i64 (1 + R)).toNat (⟨kd, ge, mo, us, ng, li, xrs, xrn, xws, xwn, ts, tn, da, by_, vf, ta, .sl (entriesA [(⟨[110, 111, 32, 115, 117, 99, 104, 32, 110, 111, 100, 101], (ns.length : Int), nx⟩ : EntryS)]) [(⟨[110, 111, 32, 115, 117, 99, 104, 32, 110, 111, 100, 101], (ns.length : Int), nx⟩ : EntryS)].length false, [(⟨[110, 111, 32, 115, 117, 99, 104, 32, 110, 111, 100, 101], (ns.length : Int), nx⟩ : EntryS)], pa, IntKind.wrap .u64 (nx + 1)⟩ : NodeS) := by
    intro bs i hb hz ho
    rw [lendN_set hok]
    congr 1
    exact lendN_ents (l := [(⟨[110, 111, 32, 115, 117, 99, 104, 32, 110, 111, 100, 101], (ns.length : Int), nx⟩ : EntryS)]) hda hb (by simp [entriesA]) (by unfold verA; rw [ho]; rfl) (by simp) hz rfl
  clear hC
  refine call_clean (fn := Try.f4) rfl Try.func4 rfl rfl rfl rfl rfl (Nat.le_of_ble_eq_true rfl) ?_
  conv => whnf
  with_reducible refine ⟨_, _, cG _ _, ?_⟩
  conv => whnf
  with_reducible refine ⟨_, _, cK _ _, ?_⟩
  conv => whnf
  (refine runK_ret (happ rfl rfl) ?_)
  conv => whnf
  (refine runK_ret (hrem rfl rfl) ?_)
  conv => whnf
  (refine runK_ret (ev_indexRsl (sz := 25) rfl rfl rfl rfl h0 h1) ?_)
  conv => whnf
  (refine runK_if rfl (runK_cells rfl hc1 hd1 (runK_ret rfl ?_)))
  conv => whnf
  (refine runK_store (z := 25) rfl rfl rfl rfl hone rfl rfl rfl (Nat.le_of_ble_eq_true rfl) (.inl rfl) ?_)
  conv => whnf
  (refine listK_of (if_pos (Nat.le_trans (Nat.le_of_eq htop) (Nat.zero_le _))) ?_)
  conv => whnf
  ((with_reducible cases z0 : how.tmod (Int.ofNat 5) == Int.ofNat 0) <;>     try exact Bool.noConfusion (Eq.trans (Eq.symm z0) q0))
  conv => whnf
  ((with_reducible cases z1 : how.tmod (Int.ofNat 5) == Int.ofNat 1) <;>     try exact Bool.noConfusion (Eq.trans (Eq.symm z1) q1))
  conv => whnf
  ((with_reducible cases z2 : how.tmod (Int.ofNat 5) == Int.ofNat 2) <;>     try exact Bool.noConfusion (Eq.trans (Eq.symm z2) q2))
  conv => whnf
  ((with_reducible cases z3 : how.tmod (Int.ofNat 5) == Int.ofNat 3) <;>     try exact Bool.noConfusion (Eq.trans (Eq.symm z3) q3))
  conv => whnf
  (refine ⟨by kernel_rfl, ?_⟩)
  conv => whnf
  (refine runK_ret (ev_indexRsl (sz := 25) rfl rfl rfl rfl h0 h1) ?_)
  conv => whnf
  (refine     runK_store (z := 25) (vs :=       nodeA         (⟨kd, ge, mo, us, ng, li, xrs, xrn, xws, xwn, ts, tn, da, by_, vf, ta,             .rsl 12 0 1 none               ((entryA                     (⟨[110, 111, 32, 115, 117, 99, 104, 32, 110, 111, 100, 101], (ns.length : Int), nx⟩ :                       EntryS)).length +                 1),             [(⟨[110, 111, 32, 115, 117, 99, 104, 32, 110, 111, 100, 101], (ns.length : Int), nx⟩ : EntryS)], pa,             IntKind.wrap .u64 (nx + 1)⟩ :           NodeS))       rfl rfl rfl rfl hone2 rfl rfl rfl hc1 (.inl rfl) ?_)
  conv => whnf
  (refine     listK_of       (splice_nodes0 (k := 0) (x :=         (⟨kd, ge, mo, us, ng, li, xrs, xrn, xws, xwn, ts, tn, da, by_, vf, ta, .sl0, [], pa, nx⟩ : NodeS)) (x' :=         (⟨kd, ge, mo, us, ng, li, xrs, xrn, xws, xwn, ts, tn, da, by_, vf, ta,             .rsl 12 0 1 none               ((entryA                     (⟨[110, 111, 32, 115, 117, 99, 104, 32, 110, 111, 100, 101], (ns.length : Int), nx⟩ :                       EntryS)).length +                 1),             [(⟨[110, 111, 32, 115, 117, 99, 104, 32, 110, 111, 100, 101], (ns.length : Int), nx⟩ : EntryS)], pa,             IntKind.wrap .u64 (nx + 1)⟩ :           NodeS))         hx (Nat.le_of_ble_eq_true rfl) rfl)       ?_)
  conv => whnf
  (refine listK_of (if_neg htop2) ?_)
  conv => whnf
  (refine     ⟨_, _,       call_lend rfl rfl         (lend_treeX (l :=           ns.set (IntKind.wrap .i64 (1 + R)).toNat             (⟨kd, ge, mo, us, ng, li, xrs, xrn, xws, xwn, ts, tn, da, by_, vf, ta,                 .rsl 12 0 1 none                   ((entryA                         (⟨[110, 111, 32, 115, 117, 99, 104, 32, 110, 111, 100, 101], (ns.length : Int), nx⟩ :                           EntryS)).length +                     1),                 [(⟨[110, 111, 32, 115, 117, 99, 104, 32, 110, 111, 100, 101], (ns.length : Int), nx⟩ : EntryS)], pa,                 IntKind.wrap .u64 (nx + 1)⟩ :               NodeS))           (l' :=           ns.set (IntKind.wrap .i64 (1 + R)).toNat             (⟨kd, ge, mo, us, ng, li, xrs, xrn, xws, xwn, ts, tn, da, by_, vf, ta,                 .sl                   (entriesA                     [(⟨[110, 111, 32, 115, 117, 99, 104, 32, 110, 111, 100, 101], (ns.length : Int), nx⟩ : EntryS)])                   [(⟨[110, 111, 32, 115, 117, 99, 104, 32, 110, 111, 100, 101], (ns.length : Int), nx⟩ : EntryS)].length                   false,                 [(⟨[110, 111, 32, 115, 117, 99, 104, 32, 110, 111, 100, 101], (ns.length : Int), nx⟩ : EntryS)], pa,                 IntKind.wrap .u64 (nx + 1)⟩ :               NodeS))           rfl hver rfl (hmap _ _ rfl rfl rfl) hoks (List.length_set ..) rfl)         rfl rfl (c1 _ _),       ?_⟩)
  conv => whnf
  with_reducible refine ⟨_, _, cL _ _, ?_⟩
  conv => whnf
  rfl
set_option maxHeartbeats 8000000 in
theorem spoil4_none (m : Nat) (from_ : FuncId) (h : H) (ns : List NodeS) (t : Bool) (gen at_ how : Int) (hG : ∀ (f : FuncId) (h : H), evCall TE (m + 59) f (.fn 5 [] []) [.agg [.sl (nodesA ns) ns.length t, .int .u32 gen]] h = some (.ret (.bool false), h)) (hK : ∀ (f : FuncId) (h : H), evCall TE (m + 59) f (.fn 6 [] []) [.agg [.sl (nodesA ns) ns.length t, .int .u32 gen]] h = some (.ret (.bool true), h))
    (hlen : ns.length ≤ 1025) (hlen2 : 2 ≤ ns.length) (R : Int) (hR : (IntKind.wrap .i64 at_).tmod (IntKind.wrap .i64 ((ns.length : Int) - 1)) = R) (h0 : 0 ≤ (IntKind.wrap .i64 (1 + R))) (h1 : (IntKind.wrap .i64 (1 + R)) < ns.length) (kd ge mo us ng li xrs xrn xws xwn ts tn : Int) (da : AV) (by_ : List Int) (vf : Nat → Int) (ta : List UInt8) (ls : AV) (es : List EntryS) (pa nx : Int) (hx : ns[(IntKind.wrap .i64 (1 + R)).toNat]? = some ⟨kd, ge, mo, us, ng, li, xrs, xrn, xws, xwn, ts, tn, da, by_, vf, ta, ls, es, pa, nx⟩) (hda : rowOk .u8 da by_) (hok : ∀ y ∈ ns, y.ok) (q0 : (how.tmod 5 == 0) = false) (q1 : (how.tmod 5 == 1) = false) (q2 : (how.tmod 5 == 2) = false) (q3 : (how.tmod 5 == 3) = false) (tt : Bool) (hls : ls = .sl (entriesA []) 0 tt) (hes : es = [])
    (hC : ∀ (Y : NodeS) (f : FuncId) (t : Bool), Y = (⟨kd, ge, mo, us, ng, li, xrs, xrn, xws, xwn, ts, tn, da, by_, vf, ta, .sl (entriesA [(⟨[110, 111, 32, 115, 117, 99, 104, 32, 110, 111, 100, 101], (ns.length : Int), nx⟩ : EntryS)]) [(⟨[110, 111, 32, 115, 117, 99, 104, 32, 110, 111, 100, 101], (ns.length : Int), nx⟩ : EntryS)].length false, [(⟨[110, 111, 32, 115, 117, 99, 104, 32, 110, 111, 100, 101], (ns.length : Int), nx⟩ : EntryS)], pa, IntKind.wrap .u64 (nx + 1)⟩ : NodeS) → evCall TE (m + 59) f (.fn 6 [] []) [.agg [.sl (nodesA (ns.set (IntKind.wrap .i64 (1 + R)).toNat Y)) ns.length t, .int .u32 gen]] ⟨[], []⟩ = some (.ret (.bool false), ⟨[], []⟩)) : evCall TE (m + 60) from_ (.fn 4 [] []) [.agg [.sl (nodesA ns) ns.length t, .int .u32 gen], .int .u16 at_, .int .u8 how] h = some (.ret (.bool true), h) := by
  subst hls hes
  have cG : ∀ (f : FuncId) (h : H), (evAll TE (m + 59)).1 f (.fn 5 [] []) [.agg [.sl (nodesA ns) ns.length t, .int .u32 gen]] h = some (.ret (.bool false), h) := hG
  have cK : ∀ (f : FuncId) (h : H), (evAll TE (m + 59)).1 f (.fn 6 [] []) [.agg [.sl (nodesA ns) ns.length t, .int .u32 gen]] h = some (.ret (.bool true), h) := hK
  have cL : ∀ (f : FuncId) (h : H), (evAll TE (m + 59)).1 f (.fn 7 [] []) [] h = some (.ret (.bool true), h) := fun f h => lives14_c (m + 9) f h
  clear hG hK
  have hrem : ∀ {nid : Nat} {ρ : Operand → AV} {t w : TypeId} {a b : Operand}, ρ a = .int .i64 (IntKind.wrap .i64 at_) → ρ b = .int .i64 (IntKind.wrap .i64 ((ns.length : Int) - 1)) → evOp TE.P TE.flat nid (.binOp .rem t a b w) ρ = .ret (.int .i64 R, .none) := fun ha hb => by
    rw [← hR]
    exact ev_rem ha hb (by rw [wrap64 (by omega) (by omega)]; omega)
  have happ : ∀ {nid : Nat} {ρ : Operand → AV} {a x : Operand}, ρ a = .sl0 → ρ x = .sl (nodesA ns) ns.length t → evOp TE.P TE.flat nid (.call { callee := .builtin .append, args := #[a, x], argTypes := #[22, 22] }) ρ = .ret (.rsl nid 0 ns.length none ((nodesA ns).length + 1), .new (.cells (nodesA ns) ⟨false, 25, true, true⟩)) := fun ha hx => (ev_appendNil (P := TE.P) (flat := TE.flat) (by_ := 144) rfl rfl rfl rfl rfl ha hx (nodesA_len ns) (by omega) (by omega) (by omega) (by decide) rfl).trans rfl
  have hxo : NodeS.ok (⟨kd, ge, mo, us, ng, li, xrs, xrn, xws, xwn, ts, tn, da, by_, vf, ta, .sl (entriesA []) 0 tt, [], pa, nx⟩ : NodeS) := ⟨hda, .inr ⟨tt, rfl⟩⟩
  have hc1 : 0 + (IntKind.wrap .i64 (1 + R)).toNat * 25 + 25 ≤ (nodesA ns).length := by rw [nodesA_len]; omega
  have hd1 : ((nodesA ns).drop (0 + (IntKind.wrap .i64 (1 + R)).toNat * 25)).take 25 = nodeA (⟨kd, ge, mo, us, ng, li, xrs, xrn, xws, xwn, ts, tn, da, by_, vf, ta, .sl (entriesA []) 0 tt, [], pa, nx⟩ : NodeS) := by rw [Nat.zero_add]; exact nodesA_node hx
  have hone : oneL (nodeA (⟨kd, ge, mo, us, ng, li, xrs, xrn, xws, xwn, ts, tn, da, by_, vf, ta, .sl (entriesA []) 0 tt, [], pa, nx⟩ : NodeS)) = true := nodeA_one hxo
  have htop : topL (nodeA (⟨kd, ge, mo, us, ng, li, xrs, xrn, xws, xwn, ts, tn, da, by_, vf, ta, .sl (entriesA []) 0 tt, [], pa, nx⟩ : NodeS)) = 0 := nodeA_top0 hxo
  have c1 : ∀ (f : FuncId) (t : Bool), evCall TE (m + 59) f (.fn 6 [] []) [.agg [.sl (nodesA (ns.set (IntKind.wrap .i64 (1 + R)).toNat (⟨kd, ge, mo, us, ng, li, xrs, xrn, xws, xwn, ts, tn, da, by_, vf, ta, .sl (entriesA [(⟨[110, 111, 32, 115, 117, 99, 104, 32, 110, 111, 100, 101], (ns.length : Int), nx⟩ : EntryS)]) [(⟨[110, 111, 32, 115, 117, 99, 104, 32, 110, 111, 100, 101], (ns.length : Int), nx⟩ : EntryS)].length false, [(⟨[110, 111, 32, 115, 117, 99, 104, 32, 110, 111, 100, 101], (ns.length : Int), nx⟩ : EntryS)], pa, IntKind.wrap .u64 (nx + 1)⟩ : NodeS))) ns.length t, .int .u32 gen]] ⟨[], []⟩ = some (.ret (.bool false), ⟨[], []⟩) := fun f t => hC _ f t rfl
  have hone2 : oneL (nodeA (⟨kd, ge, mo, us, ng, li, xrs, xrn, xws, xwn, ts, tn, da, by_, vf, ta, .rsl 12 0 1 none ((entryA (⟨[110, 111, 32, 115, 117, 99, 104, 32, 110, 111, 100, 101], (ns.length : Int), nx⟩ : EntryS)).length + 1), [(⟨[110, 111, 32, 115, 117, 99, 104, 32, 110, 111, 100, 101], (ns.length : Int), nx⟩ : EntryS)], pa, IntKind.wrap .u64 (nx + 1)⟩ : NodeS)) = true := nodeA_oneL (rowOk_one hda) rfl
  have htop2 : ¬ topL (nodeA (⟨kd, ge, mo, us, ng, li, xrs, xrn, xws, xwn, ts, tn, da, by_, vf, ta, .rsl 12 0 1 none ((entryA (⟨[110, 111, 32, 115, 117, 99, 104, 32, 110, 111, 100, 101], (ns.length : Int), nx⟩ : EntryS)).length + 1), [(⟨[110, 111, 32, 115, 117, 99, 104, 32, 110, 111, 100, 101], (ns.length : Int), nx⟩ : EntryS)], pa, IntKind.wrap .u64 (nx + 1)⟩ : NodeS)) ≤ 0 + 1 + 1 := by
    have : topL (nodeA (⟨kd, ge, mo, us, ng, li, xrs, xrn, xws, xwn, ts, tn, da, by_, vf, ta, .rsl 12 0 1 none ((entryA (⟨[110, 111, 32, 115, 117, 99, 104, 32, 110, 111, 100, 101], (ns.length : Int), nx⟩ : EntryS)).length + 1), [(⟨[110, 111, 32, 115, 117, 99, 104, 32, 110, 111, 100, 101], (ns.length : Int), nx⟩ : EntryS)], pa, IntKind.wrap .u64 (nx + 1)⟩ : NodeS)) = 12 + 1 := nodeA_topL hda
    omega
  have hYo : NodeS.ok (⟨kd, ge, mo, us, ng, li, xrs, xrn, xws, xwn, ts, tn, da, by_, vf, ta, .sl (entriesA [(⟨[110, 111, 32, 115, 117, 99, 104, 32, 110, 111, 100, 101], (ns.length : Int), nx⟩ : EntryS)]) [(⟨[110, 111, 32, 115, 117, 99, 104, 32, 110, 111, 100, 101], (ns.length : Int), nx⟩ : EntryS)].length false, [(⟨[110, 111, 32, 115, 117, 99, 104, 32, 110, 111, 100, 101], (ns.length : Int), nx⟩ : EntryS)], pa, IntKind.wrap .u64 (nx + 1)⟩ : NodeS) := ⟨hda, .inr ⟨false, rfl⟩⟩
  have hoks : ∀ w9 ∈ ns.set (IntKind.wrap .i64 (1 + R)).toNat (⟨kd, ge, mo, us, ng, li, xrs, xrn, xws, xwn, ts, tn, da, by_, vf, ta, .sl (entriesA [(⟨[110, 111, 32, 115, 117, 99, 104, 32, 110, 111, 100, 101], (ns.length : Int), nx⟩ : EntryS)]) [(⟨[110, 111, 32, 115, 117, 99, 104, 32, 110, 111, 100, 101], (ns.length : Int), nx⟩ : EntryS)].length false, [(⟨[110, 111, 32, 115, 117, 99, 104, 32, 110, 111, 100, 101], (ns.length : Int), nx⟩ : EntryS)], pa, IntKind.wrap .u64 (nx + 1)⟩ : NodeS), w9.ok := set_ok_all hok hYo
  have hver : (nodesA ns).length + 1 = (nodesA (ns.set (IntKind.wrap .i64 (1 + R)).toNat (⟨kd, ge, mo, us, ng, li, xrs, xrn, xws, xwn, ts, tn, da, by_, vf, ta, .rsl 12 0 1 none ((entryA (⟨[110, 111, 32, 115, 117, 99, 104, 32, 110, 111, 100, 101], (ns.length : Int), nx⟩ : EntryS)).length + 1), [(⟨[110, 111, 32, 115, 117, 99, 104, 32, 110, 111, 100, 101], (ns.length : Int), nx⟩ : EntryS)], pa, IntKind.wrap .u64 (nx + 1)⟩ : NodeS))).length + 1 := by rw [nodesA_len, nodesA_len, List.length_set]
  have hmap : ∀ (bs : List AB) (i : BI), bs[12]? = some (.cells (entryA (⟨[110, 111, 32, 115, 117, 99, 104, 32, 110, 111, 100, 101], (ns.length : Int), nx⟩ : EntryS)) i) → i.sz = 3 → i.opn = true → (ns.set (IntKind.wrap .i64 (1 + R)).toNat (⟨kd, ge, mo, us, ng, li, xrs, xrn, xws, xwn, ts, tn, da, by_, vf, ta, .rsl 12 0 1 none ((entryA (⟨[110, 111, 32, 115, 117, 99, 104, 32, 110, 111, 100, 101], (ns.length : Int), nx⟩ : EntryS)).length + 1), [(⟨[110, 111, 32, 115, 117, 99, 104, 32, 110, 111, 100, 101], (ns.length : Int), nx⟩ : EntryS)], pa, IntKind.wrap .u64 (nx + 1)⟩ : NodeS)).map (lendN (lendL 2 bs) bs) = ns.set (IntKind.wrap .i64 (1 + R)).toNat (⟨kd, ge, mo, us, ng, li, xrs, xrn, xws, xwn, ts, tn, da, by_, vf, ta, .sl (entriesA [(⟨[110, 111, 32, 115, 117, 99, 104, 32, 110, 111, 100, 101], (ns.length : Int), nx⟩ : EntryS)]) [(⟨[110, 111, 32, 115, 117, 99, 104, 32, 110, 111, 100, 101], (ns.length : Int), nx⟩ : EntryS)].length false, [(⟨[110, 111, 32, 115, 117, 99, 104, 32, 110, 111, 100, 101], (ns.length : Int), nx⟩ : EntryS)], pa, IntKind.wrap .u64 (nx + 1)⟩ : NodeS) := by
    intro bs i hb hz ho
    rw [lendN_set hok]
    congr 1
    exact lendN_ents (l := [(⟨[110, 111, 32, 115, 117, 99, 104, 32, 110, 111, 100, 101], (ns.length : Int), nx⟩ : EntryS)]) hda hb (by simp [entriesA]) (by unfold verA; rw [ho]; rfl) (by simp) hz rfl
  clear hC
  refine call_clean (fn := Try.f4) rfl Try.func4 rfl rfl rfl rfl rfl (Nat.le_of_ble_eq_true rfl) ?_
  conv => whnf
  with_reducible refine ⟨_, _, cG _ _, ?_⟩
  conv => whnf
  with_reducible refine ⟨_, _, cK _ _, ?_⟩
  conv => whnf
  (refine runK_ret (happ rfl rfl) ?_)
  conv => whnf
  (refine runK_ret (hrem rfl rfl) ?_)
  conv => whnf
  (refine runK_ret (ev_indexRsl (sz := 25) rfl rfl rfl rfl h0 h1) ?_)
  conv => whnf
  (refine runK_if rfl (runK_cells rfl hc1 hd1 (runK_ret rfl ?_)))
  conv => whnf
  (refine runK_store (z := 25) rfl rfl rfl rfl hone rfl rfl rfl (Nat.le_of_ble_eq_true rfl) (.inl rfl) ?_)
  conv => whnf
  (refine listK_of (if_pos (Nat.le_trans (Nat.le_of_eq htop) (Nat.zero_le _))) ?_)
  conv => whnf
  ((with_reducible cases z0 : how.tmod (Int.ofNat 5) == Int.ofNat 0) <;>     try exact Bool.noConfusion (Eq.trans (Eq.symm z0) q0))
  conv => whnf
  ((with_reducible cases z1 : how.tmod (Int.ofNat 5) == Int.ofNat 1) <;>     try exact Bool.noConfusion (Eq.trans (Eq.symm z1) q1))
  conv => whnf
  ((with_reducible cases z2 : how.tmod (Int.ofNat 5) == Int.ofNat 2) <;>     try exact Bool.noConfusion (Eq.trans (Eq.symm z2) q2))
  conv => whnf
  ((with_reducible cases z3 : how.tmod (Int.ofNat 5) == Int.ofNat 3) <;>     try exact Bool.noConfusion (Eq.trans (Eq.symm z3) q3))
  conv => whnf
  (refine ⟨by kernel_rfl, ?_⟩)
  conv => whnf
  (refine runK_ret (ev_indexRsl (sz := 25) rfl rfl rfl rfl h0 h1) ?_)
  conv => whnf
  (refine     runK_store (z := 25) (vs :=       nodeA         (⟨kd, ge, mo, us, ng, li, xrs, xrn, xws, xwn, ts, tn, da, by_, vf, ta,             .rsl 12 0 1 none               ((entryA                     (⟨[110, 111, 32, 115, 117, 99, 104, 32, 110, 111, 100, 101], (ns.length : Int), nx⟩ :                       EntryS)).length +                 1),             [(⟨[110, 111, 32, 115, 117, 99, 104, 32, 110, 111, 100, 101], (ns.length : Int), nx⟩ : EntryS)], pa,             IntKind.wrap .u64 (nx + 1)⟩ :           NodeS))       rfl rfl rfl rfl hone2 rfl rfl rfl hc1 (.inl rfl) ?_)
  conv => whnf
  (refine     listK_of       (splice_nodes0 (k := 0) (x :=         (⟨kd, ge, mo, us, ng, li, xrs, xrn, xws, xwn, ts, tn, da, by_, vf, ta, .sl (entriesA []) 0 tt, [], pa, nx⟩ :           NodeS))         (x' :=         (⟨kd, ge, mo, us, ng, li, xrs, xrn, xws, xwn, ts, tn, da, by_, vf, ta,             .rsl 12 0 1 none               ((entryA                     (⟨[110, 111, 32, 115, 117, 99, 104, 32, 110, 111, 100, 101], (ns.length : Int), nx⟩ :                       EntryS)).length +                 1),             [(⟨[110, 111, 32, 115, 117, 99, 104, 32, 110, 111, 100, 101], (ns.length : Int), nx⟩ : EntryS)], pa,             IntKind.wrap .u64 (nx + 1)⟩ :           NodeS))         hx (Nat.le_of_ble_eq_true rfl) rfl)       ?_)
  conv => whnf
  (refine listK_of (if_neg htop2) ?_)
  conv => whnf
  (refine     ⟨_, _,       call_lend rfl rfl         (lend_treeX (l :=           ns.set (IntKind.wrap .i64 (1 + R)).toNat             (⟨kd, ge, mo, us, ng, li, xrs, xrn, xws, xwn, ts, tn, da, by_, vf, ta,                 .rsl 12 0 1 none                   ((entryA                         (⟨[110, 111, 32, 115, 117, 99, 104, 32, 110, 111, 100, 101], (ns.length : Int), nx⟩ :                           EntryS)).length +                     1),                 [(⟨[110, 111, 32, 115, 117, 99, 104, 32, 110, 111, 100, 101], (ns.length : Int), nx⟩ : EntryS)], pa,                 IntKind.wrap .u64 (nx + 1)⟩ :               NodeS))           (l' :=           ns.set (IntKind.wrap .i64 (1 + R)).toNat             (⟨kd, ge, mo, us, ng, li, xrs, xrn, xws, xwn, ts, tn, da, by_, vf, ta,                 .sl                   (entriesA                     [(⟨[110, 111, 32, 115, 117, 99, 104, 32, 110, 111, 100, 101], (ns.length : Int), nx⟩ : EntryS)])                   [(⟨[110, 111, 32, 115, 117, 99, 104, 32, 110, 111, 100, 101], (ns.length : Int), nx⟩ : EntryS)].length                   false,                 [(⟨[110, 111, 32, 115, 117, 99, 104, 32, 110, 111, 100, 101], (ns.length : Int), nx⟩ : EntryS)], pa,                 IntKind.wrap .u64 (nx + 1)⟩ :               NodeS))           rfl hver rfl (hmap _ _ rfl rfl rfl) hoks (List.length_set ..) rfl)         rfl rfl (c1 _ _),       ?_⟩)
  conv => whnf
  with_reducible refine ⟨_, _, cL _ _, ?_⟩
  conv => whnf
  rfl
theorem wf_u16 {x : Int} (h : (Lit.int .u16 x).wf = true) : 0 ≤ x ∧ x < 65536 := by
  simp only [Lit.wf, Bool.and_eq_true, decide_eq_true_eq] at h
  rw [show IntKind.u16.min = 0 from rfl, show IntKind.u16.max = 65535 from rfl] at h
  omega
theorem spoil_entry2 {ns : List NodeS} {tg : Int} {n : Nat} {X : NodeS} {e : EntryS} (hn : n < ns.length) (hem : e ∈ X.ents) (he : e.node = ns.length) : checkS (ns.set n X) tg = false := by
  have hm : X ∈ ns.set n X := List.mem_of_getElem? (i := n) (by rw [List.getElem?_set_self hn])
  cases hk : (X.kind == 2) with
  | false =>
    refine checkS_any (anyBad_of hm ?_)
    cases ho : onlyS X with
    | false => rfl
    | true =>
      rw [only_list ho hk] at hem
      cases hem
  | true =>
    have hk2 : X.kind = 2 := by simpa using hk
    refine checkS_pass1 (pass1_bad _ _ _ _ ⟨_, hm, by rw [hk2]; rfl, fun g => ?_⟩)
    have hen : entriesS (ns.set n X) X = false := by
      cases hen : entriesS (ns.set n X) X with
      | false => rfl
      | true =>
        have := entries_there hen e hem
        unfold thereS at this
        rw [List.length_set, he] at this
        simp at this
    unfold nodeBad
    rw [hen, hk]
    simp
theorem ents_short {ns : List NodeS} {tg : Int} {x : NodeS} (h : checkS ns tg = true) (hx : x ∈ ns) : x.ents.length ≤ 1024 := by
  have ho := node_only h hx
  cases hk : (x.kind == 2) with
  | false =>
    rw [only_list ho hk]
    exact Nat.zero_le _
  | true =>
    have hk2 : x.kind = 2 := by simpa using hk
    have := node_ents h hx (by rw [hk2]; rfl) hk
    unfold entriesS at this
    simp only [Bool.and_eq_true, Bool.not_eq_true', decide_eq_false_iff_not] at this
    omega
theorem links_more {L : Int} (h : -9223372036854775808 ≤ L ∧ L < 9223372036854775808) : (IntKind.wrap .i64 (L + 1) == L) = false := by
  rw [beq_eq_false_iff_ne]
  intro he
  by_cases hb : L + 1 ≤ 9223372036854775807
  · rw [wrap64 (by omega) hb] at he
    omega
  · have : L = 9223372036854775807 := by omega
    rw [this] at he
    exact absurd he (by decide)
/-- The law, abstractly. -/
theorem spoil_law (m : Nat) (from_ : FuncId) (h : H) (x : TreeS) (hx : x.ok) (at_ how : Int) (hat : 0 ≤ at_) (hat2 : at_ < 65536) : evCall TE (m + 60) from_ (.fn 4 [] []) [treeA x, .int .u16 at_, .int .u8 how] h = some (.ret (.bool true), h) := by
  obtain ⟨g, hG⟩ := great14_c (m + 54) x hx
  cases g with
  | true => exact spoil_great m from_ h x.v x.ns hx.v x.gen at_ how hG
  | false =>
    have hv := hx.v
    have hns := hx.ns
    have hle := hx.len
    clear hx
    obtain ⟨v, ns, gen⟩ := x
    unfold treeA at hG ⊢
    dsimp only at hG hv hns hle ⊢
    rcases hv with ⟨rfl, rfl⟩ | ⟨t, rfl⟩
    · exact spoil_not m from_ h .sl0 [] (.inl ⟨rfl, rfl⟩) gen at_ how hG fun f h => check_nil (m + 47) f h gen
    have hKc := fun (f : FuncId) (h : H) => check_c (m + 47) f h ns t gen (fun y hy => ⟨(hns y hy).1, (hns y hy).2.few⟩) hle
    cases hck : checkS ns gen with
    | false =>
      rw [hck] at hKc
      exact spoil_not m from_ h _ ns (.inr ⟨t, rfl⟩) gen at_ how hG hKc
    | true =>
      rw [hck] at hKc
      obtain ⟨hlen2, hlen, hk0, hd1⟩ := check_pre hck
      have hok : ∀ y ∈ ns, y.ok := fun y hy => (hns y hy).1
      obtain ⟨R, hR⟩ : ∃ R, (IntKind.wrap .i64 at_).tmod (IntKind.wrap .i64 ((ns.length : Int) - 1)) = R := ⟨_, rfl⟩
      have hRr : 0 ≤ R ∧ R < (ns.length : Int) - 1 := by
        rw [← hR, wrap64 (by omega) (by omega), wrap64 (by omega) (by omega)]
        have h1 := Int.tmod_nonneg ((ns.length : Int) - 1) hat
        have h2 := Int.tmod_lt_of_pos at_ (show 0 < (ns.length : Int) - 1 by omega)
        exact ⟨h1, h2⟩
      obtain ⟨k, hk⟩ : ∃ k : Nat, 1 + R = k := ⟨(1 + R).toNat, by omega⟩
      have hW : (IntKind.wrap .i64 (1 + R)) = k := by rw [wrap64 (by omega) (by omega), hk]
      have hWn : (IntKind.wrap .i64 (1 + R)).toNat = k := by rw [hW, Int.toNat_natCast]
      have h0 : 0 ≤ (IntKind.wrap .i64 (1 + R)) := by omega
      have h1 : (IntKind.wrap .i64 (1 + R)) < ns.length := by omega
      have hkl : k < ns.length := by omega
      obtain ⟨x, hxk⟩ : ∃ x, ns[k]? = some x := ⟨_, List.getElem?_eq_getElem hkl⟩
      have hx : ns[(IntKind.wrap .i64 (1 + R)).toNat]? = some x := by rw [hWn]; exact hxk
      have hxm := List.mem_of_getElem? hxk
      have hxo := hok x hxm
      have hxf := (hns x hxm).2.few
      have key : ∀ X : NodeS, X.ok → X.few → checkS (ns.set k X) gen = false → ∀ (f : FuncId) (t : Bool), evCall TE (m + 59) f (.fn 6 [] []) [.agg [.sl (nodesA (ns.set (IntKind.wrap .i64 (1 + R)).toNat X)) ns.length t, .int .u32 gen]] ⟨[], []⟩ = some (.ret (.bool false), ⟨[], []⟩) := by
        intro X hXo hXf hXc f t
        have := check_c (m + 47) f ⟨[], []⟩ (ns.set k X) t gen (fun y hy => by
          rcases List.mem_or_eq_of_mem_set hy with hy | rfl
          · exact ⟨hok y hy, (hns y hy).2.few⟩
          · exact ⟨hXo, hXf⟩) (by rw [List.length_set]; exact hle)
        rw [hXc, List.length_set] at this
        rw [hWn]
        exact this
      cases q0 : (how.tmod 5 == 0) with
      | true =>
        cases hkd : (x.kind != 2) with
        | true => exact spoil0_kind m from_ h ns t gen at_ how hG hKc hlen hlen2 R hR h0 h1 x hx hxo q0 hkd
        | false =>
          cases hn1 : ((IntKind.wrap .i64 (1 + R)) == 1) with
          | true => exact spoil0_root m from_ h ns t gen at_ how hG hKc hlen hlen2 R hR h0 h1 x hx hxo q0 hkd hn1
          | false =>
            have hn2 : 2 ≤ k := by
              have : (IntKind.wrap .i64 (1 + R)) ≠ 1 := by simpa using hn1
              omega
            refine spoil0 m from_ h ns t gen at_ how hG hKc hlen hlen2 R hR h0 h1 x hx hxo hok q0 hkd hn1 (key _ hxo ⟨hxf.target, hxf.ents, hxf.entsL⟩ ?_)
            rw [hW]
            exact spoil_parent hck hxk (by simpa [bne] using hkd) hn2
      | false =>
        cases q1 : (how.tmod 5 == 1) with
        | true => exact spoil1 m from_ h ns t gen at_ how hG hKc hlen hlen2 R hR h0 h1 x hx hxo hok q0 q1 (key _ hxo ⟨hxf.target, hxf.ents, hxf.entsL⟩ (spoil_links hck hxk (links_more (hns x hxm).2.links)))
        | false =>
          cases q2 : (how.tmod 5 == 2) with
          | true => exact spoil2 m from_ h ns t gen at_ how hG hKc hlen hlen2 R hR h0 h1 x hx hxo hok q0 q1 q2 (key _ hxo ⟨hxf.target, hxf.ents, hxf.entsL⟩ (spoil_time hxk))
          | false =>
            cases q3 : (how.tmod 5 == 3) with
            | true =>
              cases hn1 : ((IntKind.wrap .i64 (1 + R)) == 1) with
              | true => exact spoil3_root m from_ h ns t gen at_ how hG hKc hlen hlen2 R hR h0 h1 x hx hxo q0 q1 q2 q3 hn1
              | false =>
                have hn2 : 2 ≤ k := by
                  have : (IntKind.wrap .i64 (1 + R)) ≠ 1 := by simpa using hn1
                  omega
                cases hkn : (x.kind == 0) with
                | true => exact spoil3_none m from_ h ns t gen at_ how hG hKc hlen hlen2 R hR h0 h1 x hx hxo q0 q1 q2 q3 hn1 hkn
                | false =>
                  obtain ⟨y, hy⟩ : ∃ y, ns[1]? = some y := ⟨_, List.getElem?_eq_getElem (by omega)⟩
                  have hyk : (y.kind != 0) = true := by
                    have := (there_facts (show thereS ns 1 = true by unfold dirS at hd1; rw [Bool.and_eq_true] at hd1; exact hd1.1)).2.2
                    unfold kindS at this
                    rw [show (1 : Int).toNat = 1 from rfl, hy] at this
                    exact this
                  exact spoil3 m from_ h ns t gen at_ how hG hKc hlen hlen2 R hR h0 h1 x hx hxo hok q0 q1 q2 q3 hn1 hkn y hy (key _ hxo ⟨hxf.target, hxf.ents, hxf.entsL⟩ (spoil_gen hxk (by simp [bne, hkn]) hn2 hy hyk))
            | false =>
              have hes := ents_short hck hxm
              obtain ⟨kd, ge, mo, us, ng, li, xrs, xrn, xws, xwn, ts, tn, da, by_, vf, ta, ls, es, pa, nx⟩ := x
              dsimp only at hes
              have hda := hxo.1
              have hli := hxo.2
              dsimp only at hda hli
              have fin : ∀ Y : NodeS, (∃ v, Y = (⟨kd, ge, mo, us, ng, li, xrs, xrn, xws, xwn, ts, tn, da, by_, vf, ta, v, es ++ [(⟨[110, 111, 32, 115, 117, 99, 104, 32, 110, 111, 100, 101], (ns.length : Int), nx⟩ : EntryS)], pa, IntKind.wrap .u64 (nx + 1)⟩ : NodeS)) → Y.ok → ∀ (f : FuncId) (t : Bool), evCall TE (m + 59) f (.fn 6 [] []) [.agg [.sl (nodesA (ns.set (IntKind.wrap .i64 (1 + R)).toNat Y)) ns.length t, .int .u32 gen]] ⟨[], []⟩ = some (.ret (.bool false), ⟨[], []⟩) := by
                intro Y hY hYo
                obtain ⟨v, rfl⟩ := hY
                refine key _ hYo ⟨hxf.target, fun e he => ?_, ?_⟩ (spoil_entry2 (e := (⟨[110, 111, 32, 115, 117, 99, 104, 32, 110, 111, 100, 101], (ns.length : Int), nx⟩ : EntryS)) hkl (List.mem_append_right _ (List.mem_singleton.2 rfl)) rfl)
                · rcases List.mem_append.1 he with he | he
                  · exact hxf.ents e he
                  · rw [List.mem_singleton] at he
                    subst he
                    show (12 : Nat) ≤ 140737488351232
                    omega
                · show (es ++ [(⟨[110, 111, 32, 115, 117, 99, 104, 32, 110, 111, 100, 101], (ns.length : Int), nx⟩ : EntryS)]).length * 32 ≤ 140737488351232
                  rw [List.length_append]
                  simp only [List.length_cons, List.length_nil]
                  omega
              rcases hli with ⟨hls, hnil⟩ | ⟨tt, hls⟩
              · refine spoil4_nil m from_ h ns t gen at_ how hG hKc hlen hlen2 R hR h0 h1 kd ge mo us ng li xrs xrn xws xwn ts tn da by_ vf ta ls es pa nx hx hda hok q0 q1 q2 q3 hls hnil fun Y f t hY => fin Y (by rw [hY, hnil]; exact ⟨_, rfl⟩) (by rw [hY]; exact ⟨hda, .inr ⟨false, rfl⟩⟩) f t
              · by_cases hnil : es = []
                · refine spoil4_none m from_ h ns t gen at_ how hG hKc hlen hlen2 R hR h0 h1 kd ge mo us ng li xrs xrn xws xwn ts tn da by_ vf ta ls es pa nx hx hda hok q0 q1 q2 q3 tt (by rw [hls, hnil]; rfl) hnil fun Y f t hY => fin Y (by rw [hY, hnil]; exact ⟨_, rfl⟩) (by rw [hY]; exact ⟨hda, .inr ⟨false, rfl⟩⟩) f t
                · refine spoil4_b m from_ h ns t gen at_ how hG hKc hlen hlen2 R hR h0 h1 kd ge mo us ng li xrs xrn xws xwn ts tn da by_ vf ta ls es pa nx hx hda hok q0 q1 q2 q3 tt hls hnil (by omega) fun Y f t hY => fin Y (by rw [hY]; exact ⟨_, rfl⟩) (by rw [hY]; exact ⟨hda, .inr ⟨false, rfl⟩⟩) f t
end Go.Proofs.Ytnfkpnfafekflaa.Ab
