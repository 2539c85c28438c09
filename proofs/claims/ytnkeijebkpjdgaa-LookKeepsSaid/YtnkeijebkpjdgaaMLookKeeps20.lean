import Derived.Test.YtnkeijebkpjdgaaMLookKeeps19
set_option linter.unusedVariables false
set_option linter.unusedSimpArgs false
/- Over the engine: nodes.Check, walked. -/
namespace Go.Proofs.Ytnkeijebkpjdgaa.Ab
open Go Go.RowKit
set_option maxRecDepth 100000
theorem living_c (m : Nat) (from_ : FuncId) (h : H) (ns : List NodeS) (t : Bool) (tg : Int) : evCall TE (m + 1) from_ (.fn 25 [] []) [.agg [.sl (nodesA ns) ns.length t, .int .u32 tg]] h = some (.ret (.fn 44 [] [.vref [.sl (nodesA ns) ns.length t, .int .u32 tg] 0]), h) := by
  refine call_clean (fn := Try.f25) rfl Try.func25 rfl rfl rfl rfl rfl (Nat.le_of_ble_eq_true rfl) ?_
  conv => whnf
  rfl
set_option maxHeartbeats 80000000 in
theorem check_c (m : Nat) (from_ : FuncId) (h : H) (ns : List NodeS) (t : Bool) (tg : Int) (hok : ∀ x ∈ ns, x.ok ∧ x.few) (hl : ns.length ≤ 140737488351232) : evCall TE (m + 12) from_ (.fn 7 [] []) [.agg [.sl (nodesA ns) ns.length t, .int .u32 tg]] h = some (.ret (.bool (checkS ns tg)), h) := by
  have c1 : ∀ (f : FuncId) (h : H), (evAll TE (m + 11)).1 f (.fn 20 [] []) [.agg [.sl (nodesA ns) ns.length t, .int .u32 tg], .int .i64 1, .int .u32 2] h = some (.ret (.bool (dirS ns 1)), h) := fun f h => is_c (m + 9) f h ns t tg 1 2
  have hwn : 2 ≤ ns.length → IntKind.wrap .i64 ((ns.length : Int) - 1) = ns.length - 1 := fun h => wrap64 (by omega) (by omega)
  have c2 : 2 ≤ ns.length → ∀ (f : FuncId) (h : H), (evAll TE (m + 11)).1 f (.fn 21 [] []) [.agg [.sl (nodesA ns) ns.length t, .int .u32 tg], .int .i64 (IntKind.wrap .i64 ((ns.length : Int) - 1))] h = some (.ret (.bool (thereS ns (ns.length - 1))), h) := fun h2 f h => by
    rw [hwn h2]
    exact there_c (m + 10) f h _ ns (.inr ⟨t, rfl⟩) tg _
  have c3 : ∀ (f : FuncId) (h : H), (evAll TE (m + 11)).1 f (.fn 22 [] []) [.sl (nodesA ns) ns.length t, .fn 23 [] []] h = some (.ret (.bool (anyBad ns)), h) := fun f h => contains_bad (m + 3) f h ns t (fun x hx => ⟨(hok x hx).1, (hok x hx).2.target⟩) hl
  obtain ⟨r, hr⟩ : ∃ r, r = checkS ns tg := ⟨_, rfl⟩
  rw [← hr]
  unfold checkS preBad at hr
  cases p1 : decide ((ns.length : Int) < 2) with
  | true =>
    rw [p1] at hr
    refine call_clean (fn := Try.f7) rfl Try.func7 rfl rfl rfl rfl rfl (Nat.le_of_ble_eq_true rfl) ?_
    conv => whnf
    ((with_reducible cases z0 : decide (↑ns.length < Int.ofNat 2)) <;> try exact Bool.noConfusion (Eq.trans (Eq.symm z0) p1))
    conv => whnf
    (rw [hr]; rfl)
  | false =>
    have h2 : 2 ≤ ns.length := by have := of_decide_eq_false p1; omega
    have c2 := c2 h2
    clear hwn
    obtain ⟨x0, hx0⟩ : ∃ x, ns[(0 : Int).toNat]? = some x := ⟨_, List.getElem?_eq_getElem (by show 0 < _; omega)⟩
    obtain ⟨x1, hx1⟩ : ∃ x, ns[(1 : Int).toNat]? = some x := ⟨_, List.getElem?_eq_getElem (by show 1 < _; omega)⟩
    have hk0 : kindS ns 0 = x0.kind := by unfold kindS; rw [hx0]
    have hp1 : parentS ns 1 = x1.parent := by unfold parentS; rw [hx1]
    rw [hk0, hp1, p1, Bool.false_or] at hr
    have hb0 : (0 : Int) < ns.length := by omega
    have hb1 : (1 : Int) < ns.length := by omega
    generalize dirS ns 1 = q1 at c1 hr
    generalize thereS ns (ns.length - 1) = q2 at c2 hr
    obtain ⟨q3, hq3⟩ : ∃ q, anyBad ns = q := ⟨_, rfl⟩
    rw [hq3] at c3 hr
    cases b1 : decide ((ns.length : Int) > 1025) with
    | true =>
      rw [b1] at hr
      refine call_clean (fn := Try.f7) rfl Try.func7 rfl rfl rfl rfl rfl (Nat.le_of_ble_eq_true rfl) ?_
      conv => whnf
      ((with_reducible cases z0 : decide (↑ns.length < Int.ofNat 2)) <;> try exact Bool.noConfusion (Eq.trans (Eq.symm z0) p1))
      conv => whnf
      ((with_reducible cases z1 : decide (↑ns.length > Int.ofNat 1025)) <;> try exact Bool.noConfusion (Eq.trans (Eq.symm z1) b1))
      conv => whnf
      (rw [hr]; rfl)
    | false =>
      rw [b1] at hr
      cases b2 : (x0.kind != 0) with
      | true =>
        rw [b2] at hr
        refine call_clean (fn := Try.f7) rfl Try.func7 rfl rfl rfl rfl rfl (Nat.le_of_ble_eq_true rfl) ?_
        conv => whnf
        ((with_reducible cases z0 : decide (↑ns.length < Int.ofNat 2)) <;> try exact Bool.noConfusion (Eq.trans (Eq.symm z0) p1))
        conv => whnf
        ((with_reducible cases z1 : decide (↑ns.length > Int.ofNat 1025)) <;> try exact Bool.noConfusion (Eq.trans (Eq.symm z1) b1))
        conv => whnf
        (refine runK_ret (ev_indexSl (sz := 25) rfl rfl rfl rfl (Int.le_refl 0) hb0) ?_)
        conv => whnf
        (refine runK_ret (ev_loadV (z := 1) rfl rfl rfl ((nodesA_cell hx0 0 (by decide)).trans rfl)) ?_)
        conv => whnf
        ((with_reducible cases z2 : x0.kind != Int.ofNat 0) <;> try exact Bool.noConfusion (Eq.trans (Eq.symm z2) b2))
        conv => whnf
        (rw [hr]; rfl)
      | false =>
        rw [b2] at hr
        cases q1 with
        | false =>
          refine call_clean (fn := Try.f7) rfl Try.func7 rfl rfl rfl rfl rfl (Nat.le_of_ble_eq_true rfl) ?_
          conv => whnf
          ((with_reducible cases z0 : decide (↑ns.length < Int.ofNat 2)) <;> try exact Bool.noConfusion (Eq.trans (Eq.symm z0) p1))
          conv => whnf
          ((with_reducible cases z1 : decide (↑ns.length > Int.ofNat 1025)) <;> try exact Bool.noConfusion (Eq.trans (Eq.symm z1) b1))
          conv => whnf
          (refine runK_ret (ev_indexSl (sz := 25) rfl rfl rfl rfl (Int.le_refl 0) hb0) ?_)
          conv => whnf
          (refine runK_ret (ev_loadV (z := 1) rfl rfl rfl ((nodesA_cell hx0 0 (by decide)).trans rfl)) ?_)
          conv => whnf
          ((with_reducible cases z2 : x0.kind != Int.ofNat 0) <;> try exact Bool.noConfusion (Eq.trans (Eq.symm z2) b2))
          conv => whnf
          with_reducible refine ⟨_, _, c1 _ _, ?_⟩
          conv => whnf
          (rw [hr]; rfl)
        | true =>
          cases b4 : (x1.parent != 1) with
          | true =>
            rw [b4] at hr
            refine call_clean (fn := Try.f7) rfl Try.func7 rfl rfl rfl rfl rfl (Nat.le_of_ble_eq_true rfl) ?_
            conv => whnf
            ((with_reducible cases z0 : decide (↑ns.length < Int.ofNat 2)) <;> try exact Bool.noConfusion (Eq.trans (Eq.symm z0) p1))
            conv => whnf
            ((with_reducible cases z1 : decide (↑ns.length > Int.ofNat 1025)) <;> try exact Bool.noConfusion (Eq.trans (Eq.symm z1) b1))
            conv => whnf
            (refine runK_ret (ev_indexSl (sz := 25) rfl rfl rfl rfl (Int.le_refl 0) hb0) ?_)
            conv => whnf
            (refine runK_ret (ev_loadV (z := 1) rfl rfl rfl ((nodesA_cell hx0 0 (by decide)).trans rfl)) ?_)
            conv => whnf
            ((with_reducible cases z2 : x0.kind != Int.ofNat 0) <;> try exact Bool.noConfusion (Eq.trans (Eq.symm z2) b2))
            conv => whnf
            with_reducible refine ⟨_, _, c1 _ _, ?_⟩
            conv => whnf
            (refine runK_ret (ev_indexSl (sz := 25) rfl rfl rfl rfl (by decide) hb1) ?_)
            conv => whnf
            (refine runK_ret (ev_loadV (z := 1) rfl rfl rfl ((nodesA_cell hx1 23 (by decide)).trans rfl)) ?_)
            conv => whnf
            ((with_reducible cases z3 : x1.parent != Int.ofNat 1) <;> try exact Bool.noConfusion (Eq.trans (Eq.symm z3) b4))
            conv => whnf
            (rw [hr]; rfl)
          | false =>
            rw [b4] at hr
            cases q2 with
            | false =>
              refine call_clean (fn := Try.f7) rfl Try.func7 rfl rfl rfl rfl rfl (Nat.le_of_ble_eq_true rfl) ?_
              conv => whnf
              ((with_reducible cases z0 : decide (↑ns.length < Int.ofNat 2)) <;> try exact Bool.noConfusion (Eq.trans (Eq.symm z0) p1))
              conv => whnf
              ((with_reducible cases z1 : decide (↑ns.length > Int.ofNat 1025)) <;> try exact Bool.noConfusion (Eq.trans (Eq.symm z1) b1))
              conv => whnf
              (refine runK_ret (ev_indexSl (sz := 25) rfl rfl rfl rfl (Int.le_refl 0) hb0) ?_)
              conv => whnf
              (refine runK_ret (ev_loadV (z := 1) rfl rfl rfl ((nodesA_cell hx0 0 (by decide)).trans rfl)) ?_)
              conv => whnf
              ((with_reducible cases z2 : x0.kind != Int.ofNat 0) <;> try exact Bool.noConfusion (Eq.trans (Eq.symm z2) b2))
              conv => whnf
              with_reducible refine ⟨_, _, c1 _ _, ?_⟩
              conv => whnf
              (refine runK_ret (ev_indexSl (sz := 25) rfl rfl rfl rfl (by decide) hb1) ?_)
              conv => whnf
              (refine runK_ret (ev_loadV (z := 1) rfl rfl rfl ((nodesA_cell hx1 23 (by decide)).trans rfl)) ?_)
              conv => whnf
              ((with_reducible cases z3 : x1.parent != Int.ofNat 1) <;> try exact Bool.noConfusion (Eq.trans (Eq.symm z3) b4))
              conv => whnf
              with_reducible refine ⟨_, _, c2 _ _, ?_⟩
              conv => whnf
              (rw [hr]; rfl)
            | true =>
              cases q3 with
              | true =>
                refine call_clean (fn := Try.f7) rfl Try.func7 rfl rfl rfl rfl rfl (Nat.le_of_ble_eq_true rfl) ?_
                conv => whnf
                ((with_reducible cases z0 : decide (↑ns.length < Int.ofNat 2)) <;> try exact Bool.noConfusion (Eq.trans (Eq.symm z0) p1))
                conv => whnf
                ((with_reducible cases z1 : decide (↑ns.length > Int.ofNat 1025)) <;> try exact Bool.noConfusion (Eq.trans (Eq.symm z1) b1))
                conv => whnf
                (refine runK_ret (ev_indexSl (sz := 25) rfl rfl rfl rfl (Int.le_refl 0) hb0) ?_)
                conv => whnf
                (refine runK_ret (ev_loadV (z := 1) rfl rfl rfl ((nodesA_cell hx0 0 (by decide)).trans rfl)) ?_)
                conv => whnf
                ((with_reducible cases z2 : x0.kind != Int.ofNat 0) <;> try exact Bool.noConfusion (Eq.trans (Eq.symm z2) b2))
                conv => whnf
                with_reducible refine ⟨_, _, c1 _ _, ?_⟩
                conv => whnf
                (refine runK_ret (ev_indexSl (sz := 25) rfl rfl rfl rfl (by decide) hb1) ?_)
                conv => whnf
                (refine runK_ret (ev_loadV (z := 1) rfl rfl rfl ((nodesA_cell hx1 23 (by decide)).trans rfl)) ?_)
                conv => whnf
                ((with_reducible cases z3 : x1.parent != Int.ofNat 1) <;> try exact Bool.noConfusion (Eq.trans (Eq.symm z3) b4))
                conv => whnf
                with_reducible refine ⟨_, _, c2 _ _, ?_⟩
                conv => whnf
                with_reducible refine ⟨_, _, c3 _ _, ?_⟩
                conv => whnf
                (rw [hr]; rfl)
              | false =>
                have hle : ns.length ≤ 1025 := by have := of_decide_eq_false b1; omega
                have c4 : ∀ (f : FuncId) (h : H), (evAll TE (m + 11)).1 f (.fn 25 [] []) [.agg [.sl (nodesA ns) ns.length t, .int .u32 tg]] h = some (.ret (.fn 44 [] [.vref [.sl (nodesA ns) ns.length t, .int .u32 tg] 0]), h) := fun f h => living_c (m + 10) f h ns t tg
                refine call_clean (fn := Try.f7) rfl Try.func7 rfl rfl rfl rfl rfl (Nat.le_of_ble_eq_true rfl) ?_
                conv => whnf
                ((with_reducible cases z0 : decide (↑ns.length < Int.ofNat 2)) <;> try exact Bool.noConfusion (Eq.trans (Eq.symm z0) p1))
                conv => whnf
                ((with_reducible cases z1 : decide (↑ns.length > Int.ofNat 1025)) <;> try exact Bool.noConfusion (Eq.trans (Eq.symm z1) b1))
                conv => whnf
                (refine runK_ret (ev_indexSl (sz := 25) rfl rfl rfl rfl (Int.le_refl 0) hb0) ?_)
                conv => whnf
                (refine runK_ret (ev_loadV (z := 1) rfl rfl rfl ((nodesA_cell hx0 0 (by decide)).trans rfl)) ?_)
                conv => whnf
                ((with_reducible cases z2 : x0.kind != Int.ofNat 0) <;> try exact Bool.noConfusion (Eq.trans (Eq.symm z2) b2))
                conv => whnf
                with_reducible refine ⟨_, _, c1 _ _, ?_⟩
                conv => whnf
                (refine runK_ret (ev_indexSl (sz := 25) rfl rfl rfl rfl (by decide) hb1) ?_)
                conv => whnf
                (refine runK_ret (ev_loadV (z := 1) rfl rfl rfl ((nodesA_cell hx1 23 (by decide)).trans rfl)) ?_)
                conv => whnf
                ((with_reducible cases z3 : x1.parent != Int.ofNat 1) <;> try exact Bool.noConfusion (Eq.trans (Eq.symm z3) b4))
                conv => whnf
                with_reducible refine ⟨_, _, c2 _ _, ?_⟩
                conv => whnf
                with_reducible refine ⟨_, _, c3 _ _, ?_⟩
                conv => whnf
                (refine runK_ret (ev_makeN (sz := 1) (by_ := 8) rfl rfl rfl rfl rfl rfl (by omega) (by omega) rfl (by decide) rfl (rep_ints _)) ?_)
                conv => whnf
                (refine runK_ret (ev_makeN (sz := 1) (by_ := 8) rfl rfl rfl rfl rfl rfl (by omega) (by omega) rfl (by decide) rfl (rep_ints _)) ?_)
                conv => whnf
                (refine runK_ret (ev_makeN (sz := 1) (by_ := 8) rfl rfl rfl rfl rfl rfl (by omega) (by omega) rfl (by decide) rfl (rep_ints _)) ?_)
                conv => whnf
                (refine ⟨by kernel_rfl, ?_⟩)
                conv => whnf
                with_reducible refine ⟨_, _, c4 _ _, ?_⟩
                conv => whnf
                (refine range_K ?_)
                conv => whnf
                (refine call_inline (fn := Try.f44) rfl Try.func44 rfl rfl ?_)
                conv => whnf
                refine ⟨ns.length + 1, by show ns.length + 1 ≤ 4611686018427387904; omega, ?_⟩
                refine rounds_at (fun s (a : Int × List Int × Cnt) => ⟨RG.of 24 [(8, .int .i64 a.1), (7, .int .i64 ns.length), (6, .sl (nodesA ns) ns.length t), (0, .yc 17)], ⟨(((s.h.bs.set 4 (.cells (numsA .i64 a.2.2.named) ⟨true, 1, false, true⟩)).set 6 (.cells (numsA .i64 a.2.2.subs) ⟨true, 1, false, true⟩)).set 8 (.cells (numsA .i64 a.2.2.home) ⟨true, 1, false, true⟩)).set 2 (.map (gensA a.2.1)), s.h.esc⟩⟩) (fun a => 0 ≤ a.1 ∧ a.1 ≤ ns.length ∧ a.2.2.len ns.length ∧ r = (match pass1 ns tg (ns.drop a.1.toNat) a.1 a.2.1 a.2.2 with
                  | some c => pass2 ns c ns 0
                  | none => false)) (fun a => (ns.length - a.1).toNat) _ (0, [], cnt0 ns.length) ⟨by simp only; omega, by simp only; omega, ⟨List.length_replicate .., List.length_replicate .., List.length_replicate ..⟩, by rw [hr]; rfl⟩ (by simp only; omega) (by kernel_rfl) ?_
                intro a m' hI ih
                obtain ⟨i, g, c⟩ := a
                dsimp only at hI ih ⊢
                obtain ⟨hI0, hI1, hI3, hI2⟩ := hI
                clear hr
                conv => whnf
                cases h1 : decide (i < (ns.length : Int)) with
                | false =>
                  have h1 := of_decide_eq_false h1
                  rw [List.drop_eq_nil_of_le (by omega), pass1] at hI2
                  dsimp only at hI2
                  clear ih
                  conv => whnf
                  with_reducible refine ⟨_, _, c4 _ _, ?_⟩
                  conv => whnf
                  (refine range_K ?_)
                  conv => whnf
                  (refine call_inline (fn := Try.f44) rfl Try.func44 rfl rfl ?_)
                  conv => whnf
                  refine ⟨ns.length + 1, by show ns.length + 1 ≤ 4611686018427387904; omega, ?_⟩
                  refine rounds_at (fun s (a : Int) => ⟨RG.of 24 [(8, .int .i64 a), (7, .int .i64 ns.length), (6, .sl (nodesA ns) ns.length t), (0, .yc 17)], ⟨s.h.bs, s.h.esc⟩⟩) (fun a => 0 ≤ a ∧ a ≤ ns.length ∧ r = pass2 ns c (ns.drop a.toNat) a) (fun a => (ns.length - a).toNat) _ 0 ⟨by omega, by omega, hI2⟩ (by omega) (by kernel_rfl) ?_
                  clear hI2 h1 hI0 hI1
                  intro i2 m2 hK ih3
                  obtain ⟨hK0, hK1, hK2⟩ := hK
                  conv => whnf
                  cases h4 : decide (i2 < (ns.length : Int)) with
                  | false =>
                    have h4 := of_decide_eq_false h4
                    rw [List.drop_eq_nil_of_le (by omega), pass2] at hK2
                    clear ih3
                    conv => whnf
                    (rw [hK2])
                  | true =>
                    have h4 := of_decide_eq_true h4
                    have hin : i2.toNat < ns.length := by omega
                    obtain ⟨x, hx⟩ : ∃ x, ns[i2.toNat]? = some x := ⟨_, List.getElem?_eq_getElem hin⟩
                    have hcx : i2.toNat * 25 + 25 ≤ (nodesA ns).length := by rw [nodesA_len]; omega
                    have hdx := nodesA_node hx
                    have hw : IntKind.wrap .i64 (i2 + 1) = i2 + 1 := wrap64 (by omega) (by omega)
                    have hmu : (ns.length - IntKind.wrap .i64 (i2 + 1)).toNat < (ns.length - i2).toNat := by rw [hw]; omega
                    have hwa : 0 ≤ IntKind.wrap .i64 (i2 + 1) ∧ IntKind.wrap .i64 (i2 + 1) ≤ ns.length := by rw [hw]; omega
                    rw [pass2_drop hK0 hx, ← hw] at hK2
                    have cW : ∀ (f : FuncId) (h : H), (evAll TE (m + 9)).1 f (.fn 28 [] []) [.agg [.sl (nodesA ns) ns.length t, .int .u32 tg], .int .i64 i2, .int .i64 1] h = some (.ret (.bool (withinS ns 1 (ns.length + 1) i2)), h) := fun f h => within_c (m + 4) f h ns t tg i2 1 hl
                    have hxo := (hok x (List.mem_of_getElem? hx)).1
                    have honeL : oneL (nodeA x) = true := nodeA_one hxo
                    have htop : topL (nodeA x) = 0 := nodeA_top0 hxo
                    unfold nodeA at honeL htop
                    obtain ⟨n1, n2, n3⟩ := hI3
                    have hN : i2.toNat < c.named.length := by omega
                    have hS : i2.toNat < c.subs.length := by omega
                    have hH : i2.toNat < c.home.length := by omega
                    obtain ⟨bd, hbd⟩ : ∃ b, b = nodeBad2 ns c i2 x := ⟨_, rfl⟩
                    rw [← hbd] at hK2
                    unfold nodeBad2 at0 at hbd
                    generalize withinS ns 1 (ns.length + 1) i2 = wi at cW hbd
                    obtain ⟨kd, ge, mo, us, ng, li, xrs, xrn, xws, xwn, ts, tn, da, by_, vf, ta, ls, es, pa, nx⟩ := x
                    dsimp only at hK2 hbd honeL htop
                    cases qk : (kd != 0) with
                    | false =>
                      rw [qk, if_neg (fun h => Bool.noConfusion h)] at hK2
                      conv => whnf
                      (refine runK_ret (ev_indexSl (sz := 25) rfl rfl rfl rfl hK0 h4) ?_)
                      conv => whnf
                      (refine runK_ret (ev_loadVA (z := 25) rfl rfl rfl hcx hdx) ?_)
                      conv => whnf
                      (refine runK_store (z := 25) rfl rfl rfl rfl honeL rfl rfl rfl (Nat.le_of_ble_eq_true rfl) (.inl rfl) ?_)
                      conv => whnf
                      (refine listK_of (if_pos (Nat.le_trans (Nat.le_of_eq htop) (Nat.zero_le _))) ?_)
                      conv => whnf
                      ((with_reducible cases z0 : kd != Int.ofNat 0) <;> try exact Bool.noConfusion (Eq.trans (Eq.symm z0) qk))
                      conv => whnf
                      (exact ih3 (IntKind.wrap .i64 (i2 + 1)) _ ⟨hwa.1, hwa.2, hK2⟩ hmu (by kernel_rfl))
                    | true =>
                      rw [qk, if_pos rfl] at hK2
                      have hfa : bd = true → r = false := fun hb => by rw [hK2, hb]; rfl
                      have hst : bd = false → 0 ≤ IntKind.wrap .i64 (i2 + 1) ∧ IntKind.wrap .i64 (i2 + 1) ≤ ns.length ∧ r = pass2 ns c (ns.drop (IntKind.wrap .i64 (i2 + 1)).toNat) (IntKind.wrap .i64 (i2 + 1)) := fun hb => by
                        rw [hb, if_neg (fun h => Bool.noConfusion h)] at hK2
                        exact ⟨hwa.1, hwa.2, hK2⟩
                      conv => whnf
                      (refine runK_ret (ev_indexSl (sz := 25) rfl rfl rfl rfl hK0 h4) ?_)
                      conv => whnf
                      (refine runK_ret (ev_loadVA (z := 25) rfl rfl rfl hcx hdx) ?_)
                      conv => whnf
                      (refine runK_store (z := 25) rfl rfl rfl rfl honeL rfl rfl rfl (Nat.le_of_ble_eq_true rfl) (.inl rfl) ?_)
                      conv => whnf
                      (refine listK_of (if_pos (Nat.le_trans (Nat.le_of_eq htop) (Nat.zero_le _))) ?_)
                      conv => whnf
                      ((with_reducible cases z0 : kd != Int.ofNat 0) <;> try exact Bool.noConfusion (Eq.trans (Eq.symm z0) qk))
                      conv => whnf
                      (refine yield_K ?_)
                      conv => whnf
                      (refine runK_store (z := 25) rfl rfl rfl rfl honeL rfl rfl rfl (Nat.le_of_ble_eq_true rfl) (.inl rfl) ?_)
                      conv => whnf
                      (refine listK_of (if_pos (Nat.le_trans (Nat.le_of_eq htop) (Nat.zero_le _))) ?_)
                      conv => whnf
                      (refine runK_ret (ev_indexRsl (sz := 1) rfl rfl rfl rfl hK0 h4) ?_)
                      conv => whnf
                      (refine runK_if rfl (runK_cell rfl (ints_get (l := c.named) (k := i2.toNat) hN) (runK_ret rfl ?_)))
                      conv => whnf
                      with_reducible cases z1 : li != c.named[i2.toNat]?.getD (Int.ofNat 0)
                      · conv => whnf
                        (refine runK_ret (ev_indexRsl (sz := 1) rfl rfl rfl rfl hK0 h4) ?_)
                        conv => whnf
                        (refine runK_if rfl (runK_cell rfl (ints_get (l := c.named) (k := i2.toNat) hN) (runK_ret rfl ?_)))
                        conv => whnf
                        with_reducible cases z2 : decide (c.named[i2.toNat]?.getD (Int.ofNat 0) < Int.ofNat 1)
                        · conv => whnf
                          (refine runK_ret (ev_indexRsl (sz := 1) rfl rfl rfl rfl hK0 h4) ?_)
                          conv => whnf
                          (refine runK_if rfl (runK_cell rfl (ints_get (l := c.named) (k := i2.toNat) hN) (runK_ret rfl ?_)))
                          conv => whnf
                          (refine ⟨by kernel_rfl, ?_⟩)
                          conv => whnf
                          with_reducible cases z3 : kd == Int.ofNat 2
                          · conv => whnf
                            with_reducible cases z4 : decide (c.named[i2.toNat]?.getD (Int.ofNat 0) > Int.ofNat 200)
                            · conv => whnf
                              (exact ih3 (IntKind.wrap .i64 (i2 + 1)) _ (hst (by clear ih3; rw [hbd]; simp_all <;> (intro hh; exfalso; omega))) hmu (by kernel_rfl))
                            · conv => whnf
                              (rw [hfa (by clear ih3; rw [hbd]; simp_all)])
                          · conv => whnf
                            (refine runK_ret (ev_indexRsl (sz := 1) rfl rfl rfl rfl hK0 h4) ?_)
                            conv => whnf
                            (refine runK_if rfl (runK_cell rfl (ints_get (l := c.subs) (k := i2.toNat) hS) (runK_ret rfl ?_)))
                            conv => whnf
                            with_reducible cases z5 : li != IntKind.i64.wrap (Int.ofNat 2 + c.subs[i2.toNat]?.getD (Int.ofNat 0))
                            · conv => whnf
                              with_reducible cases z6 : decide (i2 > Int.ofNat 1)
                              · conv => whnf
                                (refine ⟨by kernel_rfl, ?_⟩)
                                conv => whnf
                                (exact ih3 (IntKind.wrap .i64 (i2 + 1)) _ (hst (by clear ih3; rw [hbd]; simp_all <;> (intro hh; exfalso; omega))) hmu (by kernel_rfl))
                              · conv => whnf
                                (refine runK_ret (ev_indexRsl (sz := 1) rfl rfl rfl rfl hK0 h4) ?_)
                                conv => whnf
                                (refine runK_if rfl (runK_cell rfl (ints_get (l := c.named) (k := i2.toNat) hN) (runK_ret rfl ?_)))
                                conv => whnf
                                with_reducible cases z7 : c.named[i2.toNat]?.getD (Int.ofNat 0) != Int.ofNat 1
                                · conv => whnf
                                  (refine runK_ret (ev_indexRsl (sz := 1) rfl rfl rfl rfl hK0 h4) ?_)
                                  conv => whnf
                                  (refine runK_if rfl (runK_cell rfl (ints_get (l := c.home) (k := i2.toNat) hH) (runK_ret rfl ?_)))
                                  conv => whnf
                                  with_reducible cases z8 : c.home[i2.toNat]?.getD (Int.ofNat 0) != pa
                                  · conv => whnf
                                    with_reducible refine ⟨_, _, cW _ _, ?_⟩
                                    conv => whnf
                                    (refine ⟨by kernel_rfl, ?_⟩)
                                    conv => whnf
                                    (refine ⟨by kernel_rfl, ?_⟩)
                                    conv => whnf
                                    cases wi
                                    · conv => whnf
                                      (rw [hfa (by clear ih3; rw [hbd]; simp_all)])
                                    · conv => whnf
                                      (exact ih3 (IntKind.wrap .i64 (i2 + 1)) _ (hst (by clear ih3; rw [hbd]; simp_all <;> (intro hh; exfalso; omega))) hmu (by kernel_rfl))
                                  · conv => whnf
                                    (refine ⟨by kernel_rfl, ?_⟩)
                                    conv => whnf
                                    (rw [hfa (by clear ih3; rw [hbd]; simp_all)])
                                · conv => whnf
                                  (refine ⟨by kernel_rfl, ?_⟩)
                                  conv => whnf
                                  (rw [hfa (by clear ih3; rw [hbd]; simp_all)])
                            · conv => whnf
                              (refine ⟨by kernel_rfl, ?_⟩)
                              conv => whnf
                              (rw [hfa (by clear ih3; rw [hbd]; simp_all)])
                        · conv => whnf
                          (refine ⟨by kernel_rfl, ?_⟩)
                          conv => whnf
                          with_reducible cases z10 : kd == Int.ofNat 2
                          · conv => whnf
                            (rw [hfa (by clear ih3; rw [hbd]; simp_all)])
                          · conv => whnf
                            (refine runK_ret (ev_indexRsl (sz := 1) rfl rfl rfl rfl hK0 h4) ?_)
                            conv => whnf
                            (refine runK_if rfl (runK_cell rfl (ints_get (l := c.subs) (k := i2.toNat) hS) (runK_ret rfl ?_)))
                            conv => whnf
                            with_reducible cases z11 : li != IntKind.i64.wrap (Int.ofNat 2 + c.subs[i2.toNat]?.getD (Int.ofNat 0))
                            · conv => whnf
                              with_reducible cases z12 : decide (i2 > Int.ofNat 1)
                              · conv => whnf
                                (refine ⟨by kernel_rfl, ?_⟩)
                                conv => whnf
                                (exact ih3 (IntKind.wrap .i64 (i2 + 1)) _ (hst (by clear ih3; rw [hbd]; simp_all <;> (intro hh; exfalso; omega))) hmu (by kernel_rfl))
                              · conv => whnf
                                (refine runK_ret (ev_indexRsl (sz := 1) rfl rfl rfl rfl hK0 h4) ?_)
                                conv => whnf
                                (refine runK_if rfl (runK_cell rfl (ints_get (l := c.named) (k := i2.toNat) hN) (runK_ret rfl ?_)))
                                conv => whnf
                                with_reducible cases z13 : c.named[i2.toNat]?.getD (Int.ofNat 0) != Int.ofNat 1
                                · conv => whnf
                                  (refine runK_ret (ev_indexRsl (sz := 1) rfl rfl rfl rfl hK0 h4) ?_)
                                  conv => whnf
                                  (refine runK_if rfl (runK_cell rfl (ints_get (l := c.home) (k := i2.toNat) hH) (runK_ret rfl ?_)))
                                  conv => whnf
                                  with_reducible cases z14 : c.home[i2.toNat]?.getD (Int.ofNat 0) != pa
                                  · conv => whnf
                                    with_reducible refine ⟨_, _, cW _ _, ?_⟩
                                    conv => whnf
                                    (refine ⟨by kernel_rfl, ?_⟩)
                                    conv => whnf
                                    (refine ⟨by kernel_rfl, ?_⟩)
                                    conv => whnf
                                    cases wi
                                    · conv => whnf
                                      (rw [hfa (by clear ih3; rw [hbd]; simp_all)])
                                    · conv => whnf
                                      (exact ih3 (IntKind.wrap .i64 (i2 + 1)) _ (hst (by clear ih3; rw [hbd]; simp_all <;> (intro hh; exfalso; omega))) hmu (by kernel_rfl))
                                  · conv => whnf
                                    (refine ⟨by kernel_rfl, ?_⟩)
                                    conv => whnf
                                    (rw [hfa (by clear ih3; rw [hbd]; simp_all)])
                                · conv => whnf
                                  (refine ⟨by kernel_rfl, ?_⟩)
                                  conv => whnf
                                  (rw [hfa (by clear ih3; rw [hbd]; simp_all)])
                            · conv => whnf
                              (refine ⟨by kernel_rfl, ?_⟩)
                              conv => whnf
                              (rw [hfa (by clear ih3; rw [hbd]; simp_all)])
                      · conv => whnf
                        (refine ⟨by kernel_rfl, ?_⟩)
                        conv => whnf
                        with_reducible cases z16 : kd == Int.ofNat 2
                        · conv => whnf
                          (rw [hfa (by clear ih3; rw [hbd]; simp_all)])
                        · conv => whnf
                          (refine runK_ret (ev_indexRsl (sz := 1) rfl rfl rfl rfl hK0 h4) ?_)
                          conv => whnf
                          (refine runK_if rfl (runK_cell rfl (ints_get (l := c.subs) (k := i2.toNat) hS) (runK_ret rfl ?_)))
                          conv => whnf
                          with_reducible cases z17 : li != IntKind.i64.wrap (Int.ofNat 2 + c.subs[i2.toNat]?.getD (Int.ofNat 0))
                          · conv => whnf
                            with_reducible cases z18 : decide (i2 > Int.ofNat 1)
                            · conv => whnf
                              (refine ⟨by kernel_rfl, ?_⟩)
                              conv => whnf
                              (exact ih3 (IntKind.wrap .i64 (i2 + 1)) _ (hst (by clear ih3; rw [hbd]; simp_all <;> (intro hh; exfalso; omega))) hmu (by kernel_rfl))
                            · conv => whnf
                              (refine runK_ret (ev_indexRsl (sz := 1) rfl rfl rfl rfl hK0 h4) ?_)
                              conv => whnf
                              (refine runK_if rfl (runK_cell rfl (ints_get (l := c.named) (k := i2.toNat) hN) (runK_ret rfl ?_)))
                              conv => whnf
                              with_reducible cases z19 : c.named[i2.toNat]?.getD (Int.ofNat 0) != Int.ofNat 1
                              · conv => whnf
                                (refine runK_ret (ev_indexRsl (sz := 1) rfl rfl rfl rfl hK0 h4) ?_)
                                conv => whnf
                                (refine runK_if rfl (runK_cell rfl (ints_get (l := c.home) (k := i2.toNat) hH) (runK_ret rfl ?_)))
                                conv => whnf
                                with_reducible cases z20 : c.home[i2.toNat]?.getD (Int.ofNat 0) != pa
                                · conv => whnf
                                  with_reducible refine ⟨_, _, cW _ _, ?_⟩
                                  conv => whnf
                                  (refine ⟨by kernel_rfl, ?_⟩)
                                  conv => whnf
                                  (refine ⟨by kernel_rfl, ?_⟩)
                                  conv => whnf
                                  cases wi
                                  · conv => whnf
                                    (rw [hfa (by clear ih3; rw [hbd]; simp_all)])
                                  · conv => whnf
                                    (exact ih3 (IntKind.wrap .i64 (i2 + 1)) _ (hst (by clear ih3; rw [hbd]; simp_all <;> (intro hh; exfalso; omega))) hmu (by kernel_rfl))
                                · conv => whnf
                                  (refine ⟨by kernel_rfl, ?_⟩)
                                  conv => whnf
                                  (rw [hfa (by clear ih3; rw [hbd]; simp_all)])
                              · conv => whnf
                                (refine ⟨by kernel_rfl, ?_⟩)
                                conv => whnf
                                (rw [hfa (by clear ih3; rw [hbd]; simp_all)])
                          · conv => whnf
                            (refine ⟨by kernel_rfl, ?_⟩)
                            conv => whnf
                            (rw [hfa (by clear ih3; rw [hbd]; simp_all)])
                | true =>
                  have h1 := of_decide_eq_true h1
                  have hin : i.toNat < ns.length := by omega
                  obtain ⟨x, hx⟩ : ∃ x, ns[i.toNat]? = some x := ⟨_, List.getElem?_eq_getElem hin⟩
                  have hcx : i.toNat * 25 + 25 ≤ (nodesA ns).length := by rw [nodesA_len]; omega
                  have hdx := nodesA_node hx
                  have hxm := List.mem_of_getElem? hx
                  have hw : IntKind.wrap .i64 (i + 1) = i + 1 := wrap64 (by omega) (by omega)
                  have hmu : (ns.length - IntKind.wrap .i64 (i + 1)).toNat < (ns.length - i).toNat := by rw [hw]; omega
                  have hwa : 0 ≤ IntKind.wrap .i64 (i + 1) ∧ IntKind.wrap .i64 (i + 1) ≤ ns.length := by rw [hw]; omega
                  rw [pass1_drop hI0 hx] at hI2
                  have cE : ∀ (f : FuncId) (h : H), (evAll TE (m + 9)).1 f (.fn 27 [] []) [.agg [.sl (nodesA ns) ns.length t, .int .u32 tg], .agg (nodeA x)] h = some (.ret (.bool (entriesS ns x)), h) := fun f h => entries_c (m + 4) f h ns t tg x (hok x hxm).1 (fun e he => (hok x hxm).2.ents e he) (by have := (hok x hxm).2.entsL; omega)
                  have cT : ∀ (f : FuncId) (h : H) (s n : Int), (evAll TE (m + 9)).1 f (.fn 26 [] []) [.agg [.int .u32 s, .int .u32 n]] h = some (.ret (.bool (decide (n < 1000000000))), h) := fun f h s n => timesC_c (m + 8) f h s n
                  have cI : ∀ (f : FuncId) (h : H) (n : Int), (evAll TE (m + 9)).1 f (.fn 20 [] []) [.agg [.sl (nodesA ns) ns.length t, .int .u32 tg], .int .i64 n, .int .u32 2] h = some (.ret (.bool (dirS ns n)), h) := fun f h n => is_c (m + 7) f h ns t tg n 2
                  have hon : onlyS x = true := by
                    unfold anyBad at hq3
                    have := (List.any_eq_false.1 hq3) x hxm
                    simpa using this
                  have hth : (x.kind == 2) = true → entriesS ns x = true → ∀ e ∈ x.ents, thereS ns e.node = true := fun _ h => entries_there h
                  have hno : (x.kind == 2) = false → x.ents = [] := only_list hon
                  have hel : x.ents.length * 32 ≤ 140737488351232 := (hok x hxm).2.entsL
                  obtain ⟨eo, heo⟩ : ∃ b, entriesS ns x = b := ⟨_, rfl⟩
                  have hnb : nodeBad ns tg g x = (decide (x.gen ≥ tg) || (isGen g x.gen || (decide (x.mode > 4095) || (!decide (x.rn < 1000000000) || (!decide (x.wn < 1000000000) || (!decide (x.tn < 1000000000) || (x.kind == 2 && !eo))))))) := by unfold nodeBad; rw [heo]
                  rw [heo] at cE hth
                  unfold nodeA at cE
                  have hxo := (hok x hxm).1
                  have honeL : oneL (nodeA x) = true := nodeA_one hxo
                  have htop : topL (nodeA x) = 0 := nodeA_top0 hxo
                  unfold nodeA at honeL htop
                  clear hon hok heo
                  obtain ⟨kd, ge, mo, us, ng, li, xrs, xrn, xws, xwn, ts, tn, da, by_, vf, ta, ls, es, pa, nx⟩ := x
                  simp only [NodeS.ok, rowOk, entsOk] at hxo
                  obtain ⟨hd3, hd4⟩ := hxo
                  dsimp only at hnb hth hno cE hI2 hel honeL htop
                  cases qk : (kd != 0) with
                  | false =>
                    rw [qk, if_neg (fun h => Bool.noConfusion h), ← hw] at hI2
                    conv => whnf
                    (refine runK_ret (ev_indexSl (sz := 25) rfl rfl rfl rfl hI0 h1) ?_)
                    conv => whnf
                    (refine runK_ret (ev_loadVA (z := 25) rfl rfl rfl hcx hdx) ?_)
                    conv => whnf
                    (refine runK_store (z := 25) rfl rfl rfl rfl honeL rfl rfl rfl (Nat.le_of_ble_eq_true rfl) (.inl rfl) ?_)
                    conv => whnf
                    (refine listK_of (if_pos (Nat.le_trans (Nat.le_of_eq htop) (Nat.zero_le _))) ?_)
                    conv => whnf
                    ((with_reducible cases z0 : kd != Int.ofNat 0) <;> try exact Bool.noConfusion (Eq.trans (Eq.symm z0) qk))
                    conv => whnf
                    (exact ih (IntKind.wrap .i64 (i + 1), g, c) _ ⟨hwa.1, hwa.2, hI3, hI2⟩ hmu (by kernel_rfl))
                  | true =>
                    rw [qk, if_pos rfl, ← hw] at hI2
                    cases bg : isGen g ge with
                    | true =>
                      have hbt : nodeBad ns tg g ⟨kd, ge, mo, us, ng, li, xrs, xrn, xws, xwn, ts, tn, da, by_, vf, ta, ls, es, pa, nx⟩ = true := by rw [hnb, bg, Bool.true_or, Bool.or_true]
                      rw [hbt, if_pos rfl] at hI2
                      obtain ⟨k, hf1, hf2⟩ := gen_some g ge 0 bg
                      have hf3 := hf2 (.int .i64 2)
                      rw [Nat.zero_add] at hf1 hf3
                      clear ih hf2
                      conv => whnf
                      (refine runK_ret (ev_indexSl (sz := 25) rfl rfl rfl rfl hI0 h1) ?_)
                      conv => whnf
                      (refine runK_ret (ev_loadVA (z := 25) rfl rfl rfl hcx hdx) ?_)
                      conv => whnf
                      (refine runK_store (z := 25) rfl rfl rfl rfl honeL rfl rfl rfl (Nat.le_of_ble_eq_true rfl) (.inl rfl) ?_)
                      conv => whnf
                      (refine listK_of (if_pos (Nat.le_trans (Nat.le_of_eq htop) (Nat.zero_le _))) ?_)
                      conv => whnf
                      ((with_reducible cases z0 : kd != Int.ofNat 0) <;> try exact Bool.noConfusion (Eq.trans (Eq.symm z0) qk))
                      conv => whnf
                      (refine yield_K ?_)
                      conv => whnf
                      (refine runK_store (z := 25) rfl rfl rfl rfl honeL rfl rfl rfl (Nat.le_of_ble_eq_true rfl) (.inl rfl) ?_)
                      conv => whnf
                      (refine listK_of (if_pos (Nat.le_trans (Nat.le_of_eq htop) (Nat.zero_le _))) ?_)
                      conv => whnf
                      (refine runK_ret (v := .int .i64 1) (w := .none) (by simp only [hf1]; rfl) ?_)
                      conv => whnf
                      (refine runK_ret (v := .tup []) (w := .blk 2 (.map ((gensA g).modify k fun e => (e.1, .int .i64 2)))) (by simp only [mapSetA, hf1]; rfl) ?_)
                      conv => whnf
                      (refine listK_of (if_pos (by rw [gmod_top]; exact Nat.zero_le _)) ?_)
                      conv => whnf
                      with_reducible cases z1 : decide (ge ≥ tg)
                      · conv => whnf
                        (refine runK_ret (v := .int .i64 2) (w := .none) (by simp only [hf3]; rfl) ?_)
                        conv => whnf
                        (rw [hI2])
                      · conv => whnf
                        (rw [hI2])
                    | false =>
                      have hf1 := gen_none g ge 0 bg
                      have hf2 := gen_last g ge 0 (.int .i64 1) bg
                      rw [← gensA_app] at hf2
                      have htp := gens_top (g ++ [ge])
                      rw [bg] at hnb
                      obtain ⟨bd, hbd⟩ : ∃ b, nodeBad ns tg g ⟨kd, ge, mo, us, ng, li, xrs, xrn, xws, xwn, ts, tn, da, by_, vf, ta, ls, es, pa, nx⟩ = b := ⟨_, rfl⟩
                      rw [hbd] at hnb hI2
                      have hfa : bd = true → r = false := by
                        intro hb
                        rw [hI2, hb]
                        rfl
                      cases b7 : (kd == 2) with
                      | false =>
                        obtain rfl := hno b7
                        rcases hd4 with ⟨rfl, _⟩ | ⟨lt, rfl⟩
                        · conv => whnf
                          (refine runK_ret (ev_indexSl (sz := 25) rfl rfl rfl rfl hI0 h1) ?_)
                          conv => whnf
                          (refine runK_ret (ev_loadVA (z := 25) rfl rfl rfl hcx hdx) ?_)
                          conv => whnf
                          (refine runK_store (z := 25) rfl rfl rfl rfl honeL rfl rfl rfl (Nat.le_of_ble_eq_true rfl) (.inl rfl) ?_)
                          conv => whnf
                          (refine listK_of (if_pos (Nat.le_trans (Nat.le_of_eq htop) (Nat.zero_le _))) ?_)
                          conv => whnf
                          ((with_reducible cases z0 : kd != Int.ofNat 0) <;> try exact Bool.noConfusion (Eq.trans (Eq.symm z0) qk))
                          conv => whnf
                          (refine yield_K ?_)
                          conv => whnf
                          (refine runK_store (z := 25) rfl rfl rfl rfl honeL rfl rfl rfl (Nat.le_of_ble_eq_true rfl) (.inl rfl) ?_)
                          conv => whnf
                          (refine listK_of (if_pos (Nat.le_trans (Nat.le_of_eq htop) (Nat.zero_le _))) ?_)
                          conv => whnf
                          (refine runK_ret (v := .int .i64 0) (w := .none) (by simp only [hf1]; rfl) ?_)
                          conv => whnf
                          (refine runK_ret (v := .tup []) (w := .blk 2 (.map (gensA (g ++ [ge])))) (by simp only [mapSetA, hf1, gensA_app]; rfl) ?_)
                          conv => whnf
                          (refine listK_of (if_pos (by rw [map_top htp.1 htp.2]; exact Nat.zero_le _)) ?_)
                          conv => whnf
                          with_reducible cases z1 : decide (ge ≥ tg)
                          · conv => whnf
                            (refine runK_ret (v := .int .i64 1) (w := .none) (by simp only [hf2]; rfl) ?_)
                            conv => whnf
                            with_reducible cases z2 : decide (mo > Int.ofNat 4095)
                            · conv => whnf
                              with_reducible refine ⟨_, _, cT _ _ _ _, ?_⟩
                              conv => whnf
                              with_reducible cases z3 : decide (xrn < Int.ofNat 1000000000)
                              · conv => whnf
                                (rw [hfa (by clear ih; rw [hnb]; simp_all)])
                              · conv => whnf
                                with_reducible refine ⟨_, _, cT _ _ _ _, ?_⟩
                                conv => whnf
                                with_reducible cases z4 : decide (xwn < Int.ofNat 1000000000)
                                · conv => whnf
                                  (rw [hfa (by clear ih; rw [hnb]; simp_all)])
                                · conv => whnf
                                  with_reducible refine ⟨_, _, cT _ _ _ _, ?_⟩
                                  conv => whnf
                                  with_reducible cases z5 : decide (tn < Int.ofNat 1000000000)
                                  · conv => whnf
                                    (rw [hfa (by clear ih; rw [hnb]; simp_all)])
                                  · conv => whnf
                                    ((with_reducible cases z6 : kd == Int.ofNat 2) <;> try exact Bool.noConfusion (Eq.trans (Eq.symm z6) b7))
                                    conv => whnf
                                    have hbf : bd = false := by clear ih; rw [hnb]; simp_all
                                    rw [hbf, if_neg (fun h => Bool.noConfusion h)] at hI2
                                    rw [cntE] at hI2
                                    refine ⟨1, Nat.le_of_ble_eq_true rfl, ?_⟩
                                    conv => whnf
                                    (exact ih (IntKind.wrap .i64 (i + 1), g ++ [ge], c) _ ⟨hwa.1, hwa.2, hI3, hI2⟩ hmu (by kernel_rfl))
                            · conv => whnf
                              (rw [hfa (by clear ih; rw [hnb]; simp_all)])
                          · conv => whnf
                            (rw [hfa (by clear ih; rw [hnb]; simp_all)])
                        · conv => whnf
                          (refine runK_ret (ev_indexSl (sz := 25) rfl rfl rfl rfl hI0 h1) ?_)
                          conv => whnf
                          (refine runK_ret (ev_loadVA (z := 25) rfl rfl rfl hcx hdx) ?_)
                          conv => whnf
                          (refine runK_store (z := 25) rfl rfl rfl rfl honeL rfl rfl rfl (Nat.le_of_ble_eq_true rfl) (.inl rfl) ?_)
                          conv => whnf
                          (refine listK_of (if_pos (Nat.le_trans (Nat.le_of_eq htop) (Nat.zero_le _))) ?_)
                          conv => whnf
                          ((with_reducible cases z0 : kd != Int.ofNat 0) <;> try exact Bool.noConfusion (Eq.trans (Eq.symm z0) qk))
                          conv => whnf
                          (refine yield_K ?_)
                          conv => whnf
                          (refine runK_store (z := 25) rfl rfl rfl rfl honeL rfl rfl rfl (Nat.le_of_ble_eq_true rfl) (.inl rfl) ?_)
                          conv => whnf
                          (refine listK_of (if_pos (Nat.le_trans (Nat.le_of_eq htop) (Nat.zero_le _))) ?_)
                          conv => whnf
                          (refine runK_ret (v := .int .i64 0) (w := .none) (by simp only [hf1]; rfl) ?_)
                          conv => whnf
                          (refine runK_ret (v := .tup []) (w := .blk 2 (.map (gensA (g ++ [ge])))) (by simp only [mapSetA, hf1, gensA_app]; rfl) ?_)
                          conv => whnf
                          (refine listK_of (if_pos (by rw [map_top htp.1 htp.2]; exact Nat.zero_le _)) ?_)
                          conv => whnf
                          with_reducible cases z1 : decide (ge ≥ tg)
                          · conv => whnf
                            (refine runK_ret (v := .int .i64 1) (w := .none) (by simp only [hf2]; rfl) ?_)
                            conv => whnf
                            with_reducible cases z2 : decide (mo > Int.ofNat 4095)
                            · conv => whnf
                              with_reducible refine ⟨_, _, cT _ _ _ _, ?_⟩
                              conv => whnf
                              with_reducible cases z3 : decide (xrn < Int.ofNat 1000000000)
                              · conv => whnf
                                (rw [hfa (by clear ih; rw [hnb]; simp_all)])
                              · conv => whnf
                                with_reducible refine ⟨_, _, cT _ _ _ _, ?_⟩
                                conv => whnf
                                with_reducible cases z4 : decide (xwn < Int.ofNat 1000000000)
                                · conv => whnf
                                  (rw [hfa (by clear ih; rw [hnb]; simp_all)])
                                · conv => whnf
                                  with_reducible refine ⟨_, _, cT _ _ _ _, ?_⟩
                                  conv => whnf
                                  with_reducible cases z5 : decide (tn < Int.ofNat 1000000000)
                                  · conv => whnf
                                    (rw [hfa (by clear ih; rw [hnb]; simp_all)])
                                  · conv => whnf
                                    ((with_reducible cases z6 : kd == Int.ofNat 2) <;> try exact Bool.noConfusion (Eq.trans (Eq.symm z6) b7))
                                    conv => whnf
                                    have hbf : bd = false := by clear ih; rw [hnb]; simp_all
                                    rw [hbf, if_neg (fun h => Bool.noConfusion h)] at hI2
                                    rw [cntE] at hI2
                                    refine ⟨1, Nat.le_of_ble_eq_true rfl, ?_⟩
                                    conv => whnf
                                    (exact ih (IntKind.wrap .i64 (i + 1), g ++ [ge], c) _ ⟨hwa.1, hwa.2, hI3, hI2⟩ hmu (by kernel_rfl))
                            · conv => whnf
                              (rw [hfa (by clear ih; rw [hnb]; simp_all)])
                          · conv => whnf
                            (rw [hfa (by clear ih; rw [hnb]; simp_all)])
                      | true =>
                        rcases hd4 with ⟨rfl, rfl⟩ | ⟨lt, rfl⟩
                        · conv => whnf
                          (refine runK_ret (ev_indexSl (sz := 25) rfl rfl rfl rfl hI0 h1) ?_)
                          conv => whnf
                          (refine runK_ret (ev_loadVA (z := 25) rfl rfl rfl hcx hdx) ?_)
                          conv => whnf
                          (refine runK_store (z := 25) rfl rfl rfl rfl honeL rfl rfl rfl (Nat.le_of_ble_eq_true rfl) (.inl rfl) ?_)
                          conv => whnf
                          (refine listK_of (if_pos (Nat.le_trans (Nat.le_of_eq htop) (Nat.zero_le _))) ?_)
                          conv => whnf
                          ((with_reducible cases z0 : kd != Int.ofNat 0) <;> try exact Bool.noConfusion (Eq.trans (Eq.symm z0) qk))
                          conv => whnf
                          (refine yield_K ?_)
                          conv => whnf
                          (refine runK_store (z := 25) rfl rfl rfl rfl honeL rfl rfl rfl (Nat.le_of_ble_eq_true rfl) (.inl rfl) ?_)
                          conv => whnf
                          (refine listK_of (if_pos (Nat.le_trans (Nat.le_of_eq htop) (Nat.zero_le _))) ?_)
                          conv => whnf
                          (refine runK_ret (v := .int .i64 0) (w := .none) (by simp only [hf1]; rfl) ?_)
                          conv => whnf
                          (refine runK_ret (v := .tup []) (w := .blk 2 (.map (gensA (g ++ [ge])))) (by simp only [mapSetA, hf1, gensA_app]; rfl) ?_)
                          conv => whnf
                          (refine listK_of (if_pos (by rw [map_top htp.1 htp.2]; exact Nat.zero_le _)) ?_)
                          conv => whnf
                          with_reducible cases z1 : decide (ge ≥ tg)
                          · conv => whnf
                            (refine runK_ret (v := .int .i64 1) (w := .none) (by simp only [hf2]; rfl) ?_)
                            conv => whnf
                            with_reducible cases z2 : decide (mo > Int.ofNat 4095)
                            · conv => whnf
                              with_reducible refine ⟨_, _, cT _ _ _ _, ?_⟩
                              conv => whnf
                              with_reducible cases z3 : decide (xrn < Int.ofNat 1000000000)
                              · conv => whnf
                                (rw [hfa (by clear ih; rw [hnb]; simp_all)])
                              · conv => whnf
                                with_reducible refine ⟨_, _, cT _ _ _ _, ?_⟩
                                conv => whnf
                                with_reducible cases z4 : decide (xwn < Int.ofNat 1000000000)
                                · conv => whnf
                                  (rw [hfa (by clear ih; rw [hnb]; simp_all)])
                                · conv => whnf
                                  with_reducible refine ⟨_, _, cT _ _ _ _, ?_⟩
                                  conv => whnf
                                  with_reducible cases z5 : decide (tn < Int.ofNat 1000000000)
                                  · conv => whnf
                                    (rw [hfa (by clear ih; rw [hnb]; simp_all)])
                                  · conv => whnf
                                    ((with_reducible cases z6 : kd == Int.ofNat 2) <;> try exact Bool.noConfusion (Eq.trans (Eq.symm z6) b7))
                                    conv => whnf
                                    with_reducible refine ⟨_, _, cE _ _, ?_⟩
                                    conv => whnf
                                    cases eo
                                    · conv => whnf
                                      (rw [hfa (by clear ih; rw [hnb]; simp_all)])
                                    · conv => whnf
                                      have hbf : bd = false := by clear ih; rw [hnb]; simp_all
                                      rw [hbf, if_neg (fun h => Bool.noConfusion h)] at hI2
                                      rw [cntE] at hI2
                                      refine ⟨1, Nat.le_of_ble_eq_true rfl, ?_⟩
                                      conv => whnf
                                      (exact ih (IntKind.wrap .i64 (i + 1), g ++ [ge], c) _ ⟨hwa.1, hwa.2, hI3, hI2⟩ hmu (by kernel_rfl))
                            · conv => whnf
                              (rw [hfa (by clear ih; rw [hnb]; simp_all)])
                          · conv => whnf
                            (rw [hfa (by clear ih; rw [hnb]; simp_all)])
                        · conv => whnf
                          (refine runK_ret (ev_indexSl (sz := 25) rfl rfl rfl rfl hI0 h1) ?_)
                          conv => whnf
                          (refine runK_ret (ev_loadVA (z := 25) rfl rfl rfl hcx hdx) ?_)
                          conv => whnf
                          (refine runK_store (z := 25) rfl rfl rfl rfl honeL rfl rfl rfl (Nat.le_of_ble_eq_true rfl) (.inl rfl) ?_)
                          conv => whnf
                          (refine listK_of (if_pos (Nat.le_trans (Nat.le_of_eq htop) (Nat.zero_le _))) ?_)
                          conv => whnf
                          ((with_reducible cases z0 : kd != Int.ofNat 0) <;> try exact Bool.noConfusion (Eq.trans (Eq.symm z0) qk))
                          conv => whnf
                          (refine yield_K ?_)
                          conv => whnf
                          (refine runK_store (z := 25) rfl rfl rfl rfl honeL rfl rfl rfl (Nat.le_of_ble_eq_true rfl) (.inl rfl) ?_)
                          conv => whnf
                          (refine listK_of (if_pos (Nat.le_trans (Nat.le_of_eq htop) (Nat.zero_le _))) ?_)
                          conv => whnf
                          (refine runK_ret (v := .int .i64 0) (w := .none) (by simp only [hf1]; rfl) ?_)
                          conv => whnf
                          (refine runK_ret (v := .tup []) (w := .blk 2 (.map (gensA (g ++ [ge])))) (by simp only [mapSetA, hf1, gensA_app]; rfl) ?_)
                          conv => whnf
                          (refine listK_of (if_pos (by rw [map_top htp.1 htp.2]; exact Nat.zero_le _)) ?_)
                          conv => whnf
                          with_reducible cases z1 : decide (ge ≥ tg)
                          · conv => whnf
                            (refine runK_ret (v := .int .i64 1) (w := .none) (by simp only [hf2]; rfl) ?_)
                            conv => whnf
                            with_reducible cases z2 : decide (mo > Int.ofNat 4095)
                            · conv => whnf
                              with_reducible refine ⟨_, _, cT _ _ _ _, ?_⟩
                              conv => whnf
                              with_reducible cases z3 : decide (xrn < Int.ofNat 1000000000)
                              · conv => whnf
                                (rw [hfa (by clear ih; rw [hnb]; simp_all)])
                              · conv => whnf
                                with_reducible refine ⟨_, _, cT _ _ _ _, ?_⟩
                                conv => whnf
                                with_reducible cases z4 : decide (xwn < Int.ofNat 1000000000)
                                · conv => whnf
                                  (rw [hfa (by clear ih; rw [hnb]; simp_all)])
                                · conv => whnf
                                  with_reducible refine ⟨_, _, cT _ _ _ _, ?_⟩
                                  conv => whnf
                                  with_reducible cases z5 : decide (tn < Int.ofNat 1000000000)
                                  · conv => whnf
                                    (rw [hfa (by clear ih; rw [hnb]; simp_all)])
                                  · conv => whnf
                                    ((with_reducible cases z6 : kd == Int.ofNat 2) <;> try exact Bool.noConfusion (Eq.trans (Eq.symm z6) b7))
                                    conv => whnf
                                    with_reducible refine ⟨_, _, cE _ _, ?_⟩
                                    conv => whnf
                                    cases eo
                                    · conv => whnf
                                      (rw [hfa (by clear ih; rw [hnb]; simp_all)])
                                    · conv => whnf
                                      have hbf : bd = false := by clear ih; rw [hnb]; simp_all
                                      rw [hbf, if_neg (fun h => Bool.noConfusion h)] at hI2
                                      refine ⟨es.length + 1, by show es.length + 1 ≤ 4611686018427387904; omega, ?_⟩
                                      refine rounds_at (fun s (a : Int × Cnt) => ⟨RG.of 210 [(120, .int .i64 a.1), (119, .int .i64 es.length), (118, .sl (entriesA es) es.length lt), (8, .int .i64 i), (7, .ref 12 0 0), (6, .ref 11 0 0), (5, .ref 10 0 0), (1, .ref 0 0 0)], ⟨(((s.h.bs.set 4 (.cells (numsA .i64 a.2.named) ⟨true, 1, false, true⟩)).set 6 (.cells (numsA .i64 a.2.subs) ⟨true, 1, false, true⟩)).set 8 (.cells (numsA .i64 a.2.home) ⟨true, 1, false, true⟩)), s.h.esc⟩⟩) (fun a => 0 ≤ a.1 ∧ a.1 ≤ es.length ∧ a.2.len ns.length ∧ cntE ns i c es = cntE ns i a.2 (es.drop a.1.toNat)) (fun a => (es.length - a.1).toNat) _ (0, c) ⟨by simp only; omega, by simp only; omega, hI3, rfl⟩ (by simp only; omega) (by kernel_rfl) ?_
                                      intro a m'' hJ ih2
                                      obtain ⟨j, c'⟩ := a
                                      dsimp only at hJ ih2 ⊢
                                      obtain ⟨hJ0, hJ1, hJ3, hJ2⟩ := hJ
                                      conv => whnf
                                      cases h3 : decide (j < (es.length : Int)) with
                                      | false =>
                                        have h3 := of_decide_eq_false h3
                                        rw [List.drop_eq_nil_of_le (by omega), cntE] at hJ2
                                        rw [hJ2] at hI2
                                        clear ih2
                                        conv => whnf
                                        (exact ih (IntKind.wrap .i64 (i + 1), g ++ [ge], c') _ ⟨hwa.1, hwa.2, hJ3, hI2⟩ hmu (by kernel_rfl))
                                      | true =>
                                        have h3 := of_decide_eq_true h3
                                        clear ih hI2
                                        obtain ⟨e, he⟩ : ∃ e, es[j.toNat]? = some e := ⟨_, List.getElem?_eq_getElem (by omega)⟩
                                        have hce : j.toNat * 3 + 3 ≤ (entriesA es).length := by rw [entriesA_len]; omega
                                        have hde := entriesA_entry he
                                        have hte2 := hth b7 rfl e (List.mem_of_getElem? he)
                                        rw [cntE_drop he] at hJ2
                                        have hwj : IntKind.wrap .i64 (j + 1) = j + 1 := wrap64 (by omega) (by omega)
                                        have hmj : (es.length - IntKind.wrap .i64 (j + 1)).toNat < (es.length - j).toNat := by rw [hwj]; omega
                                        have hwb : 0 ≤ IntKind.wrap .i64 (j + 1) ∧ IntKind.wrap .i64 (j + 1) ≤ es.length := by rw [hwj]; omega
                                        rw [show j.toNat + 1 = (IntKind.wrap .i64 (j + 1)).toNat by rw [hwj]; omega] at hJ2
                                        have hl3 := stepE_len (ns := ns) (i := i) (e := e) hJ3
                                        obtain ⟨n1, n2, n3⟩ := hJ3
                                        unfold thereS at hte2
                                        rw [Bool.and_eq_true, Bool.and_eq_true, decide_eq_true_eq, decide_eq_true_eq] at hte2
                                        have he0 : 0 ≤ e.node := by omega
                                        have he1 : e.node < ns.length := hte2.2.1
                                        have hN : e.node.toNat < c'.named.length := by omega
                                        have hH : e.node.toNat < c'.home.length := by omega
                                        have hS : i.toNat < c'.subs.length := by omega
                                        clear hte2
                                        have cJ := fun f h => cI f h e.node
                                        obtain ⟨xa, xb, xc⟩ := e
                                        unfold stepE at hJ2 hl3
                                        dsimp only at cJ hJ2 hl3 he0 he1 hN hH
                                        cases qd : dirS ns xb with
                                        | false =>
                                          rw [qd] at cJ
                                          rw [qd, if_neg (fun h => Bool.noConfusion h)] at hJ2 hl3
                                          conv => whnf
                                          (refine runK_ret (ev_indexSl (sz := 3) rfl rfl rfl rfl hJ0 h3) ?_)
                                          conv => whnf
                                          (refine runK_ret (ev_loadVA (z := 3) rfl rfl rfl hce hde) ?_)
                                          conv => whnf
                                          (refine runK_ret (ev_indexRsl (sz := 1) rfl rfl rfl rfl he0 he1) ?_)
                                          conv => whnf
                                          (refine runK_if rfl (runK_cell rfl (ints_get (l := c'.named) (k := xb.toNat) hN) (runK_ret rfl ?_)))
                                          conv => whnf
                                          (refine runK_ret (ev_indexRsl (sz := 1) rfl rfl rfl rfl he0 he1) ?_)
                                          conv => whnf
                                          (refine runK_if ⟨rfl, rfl, (by show 0 + xb.toNat * 1 + 1 ≤ (numsA .i64 c'.named).length; rw [ints_len]; omega), .inr rfl⟩ ?_)
                                          conv => whnf
                                          (refine listK_of (ints_put (l := c'.named) (k := xb.toNat) hN) ?_)
                                          conv => whnf
                                          (refine runK_ret (ev_indexRsl (sz := 1) rfl rfl rfl rfl he0 he1) ?_)
                                          conv => whnf
                                          (refine runK_if ⟨rfl, rfl, (by show 0 + xb.toNat * 1 + 1 ≤ (numsA .i64 c'.home).length; rw [ints_len]; omega), .inr rfl⟩ ?_)
                                          conv => whnf
                                          (refine listK_of (ints_put (l := c'.home) (k := xb.toNat) hH) ?_)
                                          conv => whnf
                                          with_reducible refine ⟨_, _, cJ _ _, ?_⟩
                                          conv => whnf
                                          (exact ih2 (IntKind.wrap .i64 (j + 1), ⟨bump c'.named xb, c'.subs, c'.home.set xb.toNat i⟩) _ ⟨hwb.1, hwb.2, hl3, hJ2⟩ hmj (by kernel_rfl))
                                        | true =>
                                          rw [qd] at cJ
                                          rw [qd, if_pos rfl] at hJ2 hl3
                                          conv => whnf
                                          (refine runK_ret (ev_indexSl (sz := 3) rfl rfl rfl rfl hJ0 h3) ?_)
                                          conv => whnf
                                          (refine runK_ret (ev_loadVA (z := 3) rfl rfl rfl hce hde) ?_)
                                          conv => whnf
                                          (refine runK_ret (ev_indexRsl (sz := 1) rfl rfl rfl rfl he0 he1) ?_)
                                          conv => whnf
                                          (refine runK_if rfl (runK_cell rfl (ints_get (l := c'.named) (k := xb.toNat) hN) (runK_ret rfl ?_)))
                                          conv => whnf
                                          (refine runK_ret (ev_indexRsl (sz := 1) rfl rfl rfl rfl he0 he1) ?_)
                                          conv => whnf
                                          (refine runK_if ⟨rfl, rfl, (by show 0 + xb.toNat * 1 + 1 ≤ (numsA .i64 c'.named).length; rw [ints_len]; omega), .inr rfl⟩ ?_)
                                          conv => whnf
                                          (refine listK_of (ints_put (l := c'.named) (k := xb.toNat) hN) ?_)
                                          conv => whnf
                                          (refine runK_ret (ev_indexRsl (sz := 1) rfl rfl rfl rfl he0 he1) ?_)
                                          conv => whnf
                                          (refine runK_if ⟨rfl, rfl, (by show 0 + xb.toNat * 1 + 1 ≤ (numsA .i64 c'.home).length; rw [ints_len]; omega), .inr rfl⟩ ?_)
                                          conv => whnf
                                          (refine listK_of (ints_put (l := c'.home) (k := xb.toNat) hH) ?_)
                                          conv => whnf
                                          with_reducible refine ⟨_, _, cJ _ _, ?_⟩
                                          conv => whnf
                                          (refine runK_ret (ev_indexRsl (sz := 1) rfl rfl rfl rfl hI0 h1) ?_)
                                          conv => whnf
                                          (refine runK_if rfl (runK_cell rfl (ints_get (l := c'.subs) (k := i.toNat) hS) (runK_ret rfl ?_)))
                                          conv => whnf
                                          (refine runK_ret (ev_indexRsl (sz := 1) rfl rfl rfl rfl hI0 h1) ?_)
                                          conv => whnf
                                          (refine runK_if ⟨rfl, rfl, (by show 0 + i.toNat * 1 + 1 ≤ (numsA .i64 c'.subs).length; rw [ints_len]; omega), .inr rfl⟩ ?_)
                                          conv => whnf
                                          (refine listK_of (ints_put (l := c'.subs) (k := i.toNat) hS) ?_)
                                          conv => whnf
                                          (exact ih2 (IntKind.wrap .i64 (j + 1), ⟨bump c'.named xb, (bump c'.subs i), c'.home.set xb.toNat i⟩) _ ⟨hwb.1, hwb.2, hl3, hJ2⟩ hmj (by kernel_rfl))
                            · conv => whnf
                              (rw [hfa (by clear ih; rw [hnb]; simp_all)])
                          · conv => whnf
                            (rw [hfa (by clear ih; rw [hnb]; simp_all)])
end Go.Proofs.Ytnkeijebkpjdgaa.Ab
