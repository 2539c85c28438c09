import Derived.Test.YtbebcbcnibfbhaaF37
import Derived.Test.YtbebcbcnibfbhaaFQ
/- Over the engine: what is refused; the law GuardTwice. -/
namespace Go.Proofs.Ytbebcbcnibfbhaa.Ab
open Go Go.RowKit

set_option maxRecDepth 100000
def code4 (a1 a2 a3 a4 : Int) : Int := if (a1 != 0) = true then a1 else if (a2 != 0) = true then a2 else if (a3 != 0) = true then a3 else a4
set_option maxHeartbeats 8000000 in
theorem set_bad (m : Nat) (from_ : FuncId) (h : H) (ns : List NodeS) (t : Bool) (gen n : Int) (c : CredS) (hc : c.ok) (s : SetS) (ss sn : Int) (bo : Nat → Int) (hok : ∀ x ∈ ns, x.fit) (hn : thereS ns n = true) (x : NodeS) (hx : ns[n.toNat]? = some x) (hlen : ns.length ≤ 300) (e : Int) (he : e = code4 (formS s sn) (if ownerS x c s (ownsS ns n c) = true then 1 else 0) (sizeB x s (ownsS ns n c || mayX x c 2)) (stampsB s (ownsS ns n c) (ownsS ns n c || mayX x c 2))) (hne : (e != 0) = true) : evCall TE (m + 7) from_ (.fn 12 [] []) [.agg [.sl (nodesA ns) ns.length t, .int .u32 gen], .int .i64 n, .agg [.int .u32 c.user, .int .u32 c.group, c.gs], .agg (setA s), worldA ss sn bo] h = some (.ret (.tup [.agg [.sl0, .int .u32 0], .int .u32 e]), h) := by
  have c1 : ∀ (f : FuncId) (h : H), (evAll TE (m + 6)).1 f (.fn 26 [] []) [.agg [.sl (nodesA ns) ns.length t, .int .u32 gen], .int .i64 n] h = some (.ret (.tup [.agg (attrsS x n), .bool true]), h) := fun f h => attrs_some (m + 4) f h _ ns (.inr ⟨t, rfl⟩) gen n x hn hx (hok x (List.mem_of_getElem? hx)).1
  have c2 : ∀ (f : FuncId) (h : H), (evAll TE (m + 6)).1 f (.fn 34 [] []) [.agg [.sl (nodesA ns) ns.length t, .int .u32 gen], .int .i64 n, .agg [.int .u32 c.user, .int .u32 c.group, c.gs]] h = some (.ret (.bool (ownsS ns n c)), h) := fun f h => owns_c (m + 3) f h _ ns (.inr ⟨t, rfl⟩) (fun x hx => (hok x hx).1) gen n c hc
  generalize ownsS ns n c = ow at *
  have hcl : cleanL [askA (.sl (nodesA ns) ns.length t) gen n c s ss sn ow] = true := by
    unfold askA
    rcases hc.1 with ⟨hg, _⟩ | ⟨tt, hg⟩ <;> rw [hg] <;> rfl
  have hrw : ∀ f g : FuncId, (g = 35 ∨ g = 36 ∨ g = 37 ∨ g = 38) → TE.raw f g = false := by
    intro f g hg
    rcases hg with rfl | rfl | rfl | rfl <;> rfl
  have c3 : ∀ (f : FuncId) (h : H), (evAll TE (m + 6)).1 f (.fn 35 [askA (.sl (nodesA ns) ns.length t) gen n c s ss sn ow] []) [] h = some (.ret (.int .u32 (formS s sn)), h) := fun f h => (call_bound hcl (hrw f _ (.inl rfl))).trans <| form_c (m + 4) f h ns t gen n c hc s ss sn ow
  have c4 : ∀ (f : FuncId) (h : H), (evAll TE (m + 6)).1 f (.fn 36 [askA (.sl (nodesA ns) ns.length t) gen n c s ss sn ow] []) [] h = some (.ret (.int .u32 (if ownerS x c s ow = true then 1 else 0)), h) := fun f h => (call_bound hcl (hrw f _ (.inr (.inl rfl)))).trans <| owner_c (m + 1) f h ns t gen n c hc s ss sn ow (fun x hx => (hok x hx).1) hn x hx
  have c5 : ∀ (f : FuncId) (h : H), (evAll TE (m + 6)).1 f (.fn 37 [askA (.sl (nodesA ns) ns.length t) gen n c s ss sn ow] []) [] h = some (.ret (.int .u32 (sizeB x s (ow || mayX x c 2))), h) := fun f h => (call_bound hcl (hrw f _ (.inr (.inr (.inl rfl))))).trans <| size_c m f h ns t gen n c hc s ss sn ow (fun x hx => (hok x hx).1) hn x hx
  have c6 : ∀ (f : FuncId) (h : H), (evAll TE (m + 6)).1 f (.fn 38 [askA (.sl (nodesA ns) ns.length t) gen n c s ss sn ow] []) [] h = some (.ret (.int .u32 (stampsB s ow (ow || mayX x c 2))), h) := fun f h => (call_bound hcl (hrw f _ (.inr (.inr (.inr rfl))))).trans <| stamps_c m f h ns t gen n c hc s ss sn ow (fun x hx => (hok x hx).1) hn x hx
  generalize formS s sn = a1 at c3 he
  generalize (if ownerS x c s ow = true then (1 : Int) else 0) = a2 at c4 he
  generalize sizeB x s (ow || mayX x c 2) = a3 at c5 he
  generalize stampsB s ow (ow || mayX x c 2) = a4 at c6 he
  unfold code4 at he
  have hn0 : 0 ≤ n := by unfold thereS at hn; rw [Bool.and_eq_true, Bool.and_eq_true, decide_eq_true_eq, decide_eq_true_eq] at hn; omega
  have hn1 : n < ns.length := by unfold thereS at hn; rw [Bool.and_eq_true, Bool.and_eq_true, decide_eq_true_eq, decide_eq_true_eq] at hn; omega
  unfold askA at c3 c4 c5 c6
  obtain ⟨u, gr, gs, l⟩ := c
  dsimp only at c1 c2 c3 c4 c5 c6 ⊢
  obtain ⟨hm, mode, hu, user, hg, group, hs, size, rh, rs, rn, wh, ws, wn⟩ := s
  unfold attrsS at c1
  unfold setA worldA
  dsimp only at c3 c4 c5 c6 ⊢
  obtain ⟨h1, h2⟩ := hc
  dsimp only at h1 h2
  rcases h1 with ⟨rfl, rfl⟩ | ⟨tt, rfl⟩
  · cases q1 : (a1 != 0) with
    | true =>
      rw [q1, if_pos rfl] at he
      subst he
      refine call_clean (fn := Try.f12) rfl Try.func12 rfl rfl rfl rfl rfl (Nat.le_of_ble_eq_true rfl) ?_
      conv => whnf
      with_reducible refine ⟨_, _, c1 _ _, ?_⟩
      conv => whnf
      with_reducible refine ⟨_, _, c2 _ _, ?_⟩
      conv => whnf
      (refine ⟨rfl, ?_⟩)
      conv => whnf
      (refine ⟨by kernel_rfl, ?_⟩)
      conv => whnf
      (with_reducible refine ⟨(5 : Nat), ?_, ?_⟩; · exact Nat.le_of_ble_eq_true rfl)
      conv => whnf
      with_reducible refine ⟨_, _, c3 _ _, ?_⟩
      conv => whnf
      cases z0 : e != Int.ofNat 0
      · exact Bool.noConfusion (Eq.trans (Eq.symm z0) hne)
      · conv => whnf
        rfl
    | false =>
      rw [q1, if_neg (fun h => Bool.noConfusion h)] at he
      cases q2 : (a2 != 0) with
      | true =>
        rw [q2, if_pos rfl] at he
        subst he
        refine call_clean (fn := Try.f12) rfl Try.func12 rfl rfl rfl rfl rfl (Nat.le_of_ble_eq_true rfl) ?_
        conv => whnf
        with_reducible refine ⟨_, _, c1 _ _, ?_⟩
        conv => whnf
        with_reducible refine ⟨_, _, c2 _ _, ?_⟩
        conv => whnf
        (refine ⟨rfl, ?_⟩)
        conv => whnf
        (refine ⟨by kernel_rfl, ?_⟩)
        conv => whnf
        (with_reducible refine ⟨(5 : Nat), ?_, ?_⟩; · exact Nat.le_of_ble_eq_true rfl)
        conv => whnf
        with_reducible refine ⟨_, _, c3 _ _, ?_⟩
        conv => whnf
        cases z0 : a1 != Int.ofNat 0
        · conv => whnf
          with_reducible refine ⟨_, _, c4 _ _, ?_⟩
          conv => whnf
          cases z1 : e != Int.ofNat 0
          · exact Bool.noConfusion (Eq.trans (Eq.symm z1) hne)
          · conv => whnf
            rfl
        · exact Bool.noConfusion (Eq.trans (Eq.symm z0) q1)
      | false =>
        rw [q2, if_neg (fun h => Bool.noConfusion h)] at he
        cases q3 : (a3 != 0) with
        | true =>
          rw [q3, if_pos rfl] at he
          subst he
          refine call_clean (fn := Try.f12) rfl Try.func12 rfl rfl rfl rfl rfl (Nat.le_of_ble_eq_true rfl) ?_
          conv => whnf
          with_reducible refine ⟨_, _, c1 _ _, ?_⟩
          conv => whnf
          with_reducible refine ⟨_, _, c2 _ _, ?_⟩
          conv => whnf
          (refine ⟨rfl, ?_⟩)
          conv => whnf
          (refine ⟨by kernel_rfl, ?_⟩)
          conv => whnf
          (with_reducible refine ⟨(5 : Nat), ?_, ?_⟩; · exact Nat.le_of_ble_eq_true rfl)
          conv => whnf
          with_reducible refine ⟨_, _, c3 _ _, ?_⟩
          conv => whnf
          cases z0 : a1 != Int.ofNat 0
          · conv => whnf
            with_reducible refine ⟨_, _, c4 _ _, ?_⟩
            conv => whnf
            cases z1 : a2 != Int.ofNat 0
            · conv => whnf
              with_reducible refine ⟨_, _, c5 _ _, ?_⟩
              conv => whnf
              cases z2 : e != Int.ofNat 0
              · exact Bool.noConfusion (Eq.trans (Eq.symm z2) hne)
              · conv => whnf
                rfl
            · exact Bool.noConfusion (Eq.trans (Eq.symm z1) q2)
          · exact Bool.noConfusion (Eq.trans (Eq.symm z0) q1)
        | false =>
          rw [q3, if_neg (fun h => Bool.noConfusion h)] at he
          subst he
          refine call_clean (fn := Try.f12) rfl Try.func12 rfl rfl rfl rfl rfl (Nat.le_of_ble_eq_true rfl) ?_
          conv => whnf
          with_reducible refine ⟨_, _, c1 _ _, ?_⟩
          conv => whnf
          with_reducible refine ⟨_, _, c2 _ _, ?_⟩
          conv => whnf
          (refine ⟨rfl, ?_⟩)
          conv => whnf
          (refine ⟨by kernel_rfl, ?_⟩)
          conv => whnf
          (with_reducible refine ⟨(5 : Nat), ?_, ?_⟩; · exact Nat.le_of_ble_eq_true rfl)
          conv => whnf
          with_reducible refine ⟨_, _, c3 _ _, ?_⟩
          conv => whnf
          cases z0 : a1 != Int.ofNat 0
          · conv => whnf
            with_reducible refine ⟨_, _, c4 _ _, ?_⟩
            conv => whnf
            cases z1 : a2 != Int.ofNat 0
            · conv => whnf
              with_reducible refine ⟨_, _, c5 _ _, ?_⟩
              conv => whnf
              cases z2 : a3 != Int.ofNat 0
              · conv => whnf
                with_reducible refine ⟨_, _, c6 _ _, ?_⟩
                conv => whnf
                cases z3 : e != Int.ofNat 0
                · exact Bool.noConfusion (Eq.trans (Eq.symm z3) hne)
                · conv => whnf
                  rfl
              · exact Bool.noConfusion (Eq.trans (Eq.symm z2) q3)
            · exact Bool.noConfusion (Eq.trans (Eq.symm z1) q2)
          · exact Bool.noConfusion (Eq.trans (Eq.symm z0) q1)
  · cases q1 : (a1 != 0) with
    | true =>
      rw [q1, if_pos rfl] at he
      subst he
      refine call_clean (fn := Try.f12) rfl Try.func12 rfl rfl rfl rfl rfl (Nat.le_of_ble_eq_true rfl) ?_
      conv => whnf
      with_reducible refine ⟨_, _, c1 _ _, ?_⟩
      conv => whnf
      with_reducible refine ⟨_, _, c2 _ _, ?_⟩
      conv => whnf
      (refine ⟨rfl, ?_⟩)
      conv => whnf
      (refine ⟨by kernel_rfl, ?_⟩)
      conv => whnf
      (with_reducible refine ⟨(5 : Nat), ?_, ?_⟩; · exact Nat.le_of_ble_eq_true rfl)
      conv => whnf
      with_reducible refine ⟨_, _, c3 _ _, ?_⟩
      conv => whnf
      cases z0 : e != Int.ofNat 0
      · exact Bool.noConfusion (Eq.trans (Eq.symm z0) hne)
      · conv => whnf
        rfl
    | false =>
      rw [q1, if_neg (fun h => Bool.noConfusion h)] at he
      cases q2 : (a2 != 0) with
      | true =>
        rw [q2, if_pos rfl] at he
        subst he
        refine call_clean (fn := Try.f12) rfl Try.func12 rfl rfl rfl rfl rfl (Nat.le_of_ble_eq_true rfl) ?_
        conv => whnf
        with_reducible refine ⟨_, _, c1 _ _, ?_⟩
        conv => whnf
        with_reducible refine ⟨_, _, c2 _ _, ?_⟩
        conv => whnf
        (refine ⟨rfl, ?_⟩)
        conv => whnf
        (refine ⟨by kernel_rfl, ?_⟩)
        conv => whnf
        (with_reducible refine ⟨(5 : Nat), ?_, ?_⟩; · exact Nat.le_of_ble_eq_true rfl)
        conv => whnf
        with_reducible refine ⟨_, _, c3 _ _, ?_⟩
        conv => whnf
        cases z0 : a1 != Int.ofNat 0
        · conv => whnf
          with_reducible refine ⟨_, _, c4 _ _, ?_⟩
          conv => whnf
          cases z1 : e != Int.ofNat 0
          · exact Bool.noConfusion (Eq.trans (Eq.symm z1) hne)
          · conv => whnf
            rfl
        · exact Bool.noConfusion (Eq.trans (Eq.symm z0) q1)
      | false =>
        rw [q2, if_neg (fun h => Bool.noConfusion h)] at he
        cases q3 : (a3 != 0) with
        | true =>
          rw [q3, if_pos rfl] at he
          subst he
          refine call_clean (fn := Try.f12) rfl Try.func12 rfl rfl rfl rfl rfl (Nat.le_of_ble_eq_true rfl) ?_
          conv => whnf
          with_reducible refine ⟨_, _, c1 _ _, ?_⟩
          conv => whnf
          with_reducible refine ⟨_, _, c2 _ _, ?_⟩
          conv => whnf
          (refine ⟨rfl, ?_⟩)
          conv => whnf
          (refine ⟨by kernel_rfl, ?_⟩)
          conv => whnf
          (with_reducible refine ⟨(5 : Nat), ?_, ?_⟩; · exact Nat.le_of_ble_eq_true rfl)
          conv => whnf
          with_reducible refine ⟨_, _, c3 _ _, ?_⟩
          conv => whnf
          cases z0 : a1 != Int.ofNat 0
          · conv => whnf
            with_reducible refine ⟨_, _, c4 _ _, ?_⟩
            conv => whnf
            cases z1 : a2 != Int.ofNat 0
            · conv => whnf
              with_reducible refine ⟨_, _, c5 _ _, ?_⟩
              conv => whnf
              cases z2 : e != Int.ofNat 0
              · exact Bool.noConfusion (Eq.trans (Eq.symm z2) hne)
              · conv => whnf
                rfl
            · exact Bool.noConfusion (Eq.trans (Eq.symm z1) q2)
          · exact Bool.noConfusion (Eq.trans (Eq.symm z0) q1)
        | false =>
          rw [q3, if_neg (fun h => Bool.noConfusion h)] at he
          subst he
          refine call_clean (fn := Try.f12) rfl Try.func12 rfl rfl rfl rfl rfl (Nat.le_of_ble_eq_true rfl) ?_
          conv => whnf
          with_reducible refine ⟨_, _, c1 _ _, ?_⟩
          conv => whnf
          with_reducible refine ⟨_, _, c2 _ _, ?_⟩
          conv => whnf
          (refine ⟨rfl, ?_⟩)
          conv => whnf
          (refine ⟨by kernel_rfl, ?_⟩)
          conv => whnf
          (with_reducible refine ⟨(5 : Nat), ?_, ?_⟩; · exact Nat.le_of_ble_eq_true rfl)
          conv => whnf
          with_reducible refine ⟨_, _, c3 _ _, ?_⟩
          conv => whnf
          cases z0 : a1 != Int.ofNat 0
          · conv => whnf
            with_reducible refine ⟨_, _, c4 _ _, ?_⟩
            conv => whnf
            cases z1 : a2 != Int.ofNat 0
            · conv => whnf
              with_reducible refine ⟨_, _, c5 _ _, ?_⟩
              conv => whnf
              cases z2 : a3 != Int.ofNat 0
              · conv => whnf
                with_reducible refine ⟨_, _, c6 _ _, ?_⟩
                conv => whnf
                cases z3 : e != Int.ofNat 0
                · exact Bool.noConfusion (Eq.trans (Eq.symm z3) hne)
                · conv => whnf
                  rfl
              · exact Bool.noConfusion (Eq.trans (Eq.symm z2) q3)
            · exact Bool.noConfusion (Eq.trans (Eq.symm z1) q2)
          · exact Bool.noConfusion (Eq.trans (Eq.symm z0) q1)
theorem set_gone (m : Nat) (from_ : FuncId) (h : H) (v : AV) (ns : List NodeS) (hv : nodesOk v ns) (gen n : Int) (c : CredS) (hc : c.ok) (s : SetS) (ss sn : Int) (bo : Nat → Int) (hn : thereS ns n = false) :
    evCall TE (m + 7) from_ (.fn 12 [] []) [.agg [v, .int .u32 gen], .int .i64 n, .agg [.int .u32 c.user, .int .u32 c.group, c.gs], .agg (setA s), worldA ss sn bo] h = some (.ret (.tup [.agg [.sl0, .int .u32 0], .int .u32 70]), h) := by
  have c1 : ∀ (f : FuncId) (h : H), (evAll TE (m + 6)).1 f (.fn 26 [] []) [.agg [v, .int .u32 gen], .int .i64 n] h = some (.ret (.tup [.agg attrs0, .bool false]), h) := fun f h => attrs_none (m + 4) f h v ns hv gen n hn
  obtain ⟨u, gr, gs, l⟩ := c
  obtain ⟨h1, h2⟩ := hc
  dsimp only at h1 h2
  obtain ⟨hm, mode, hu, user, hg, group, hs, size, rh, rs, rn, wh, ws, wn⟩ := s
  unfold setA worldA
  unfold attrs0 at c1
  dsimp only
  rcases h1 with ⟨rfl, rfl⟩ | ⟨tt, rfl⟩ <;> rcases hv with ⟨rfl, rfl⟩ | ⟨t, rfl⟩
  all_goals refine call_clean (fn := Try.f12) rfl Try.func12 rfl rfl rfl rfl rfl (Nat.le_of_ble_eq_true rfl) ?_
  all_goals
    conv => whnf
    with_reducible refine ⟨_, _, c1 _ _, ?_⟩
    conv => whnf
    rfl
theorem lives16_c (n : Nat) (from_ : FuncId) (h : H) : evCall TE (n + 40) from_ (.fn 11 [] []) [] h = some (.ret (.bool true), h) := by
  skip
  kernel_rfl
theorem great16_c (m : Nat) (x : SettingS) (hx : x.ok) : ∃ g, (g = false → x.t.ns.length ≤ 300) ∧ ∀ (f : FuncId) (h : H), evCall TE (m + 5) f (.fn 10 [] []) [settingA x] h = some (.ret (.bool g), h) := by
  obtain ⟨_, ⟨r, rfl, _, _⟩, hc⟩ := treeSize_c m x.t hx.t
  obtain ⟨g, hg⟩ : ∃ g, g = (decide (r > 40000) || (decide ((x.c.l.length : Int) > 3000) || decide ((x.t.ns.length : Int) > 300))) := ⟨_, rfl⟩
  refine ⟨g, fun h => ?_, fun f h => ?_⟩
  · rw [hg, Bool.or_eq_false_iff, Bool.or_eq_false_iff] at h
    have := of_decide_eq_false h.2.2
    omega
  · have c1 : ∀ (f : FuncId) (h : H), (evAll TE (m + 4)).1 f (.fn 32 [] []) [treeA x.t] h = some (.ret (.int .i64 r), h) := fun f h => hc f h
    have hv := hx.t.v
    have h1 := hx.c.1
    clear hx hc
    obtain ⟨⟨v, ns, gen⟩, n, ⟨u, gr, gs, l⟩, ⟨hm, mode, hu, user, hgg, group, hs, size, rh, rs, rn, wh, ws, wn⟩, ss, sn, bo⟩ := x
    unfold treeA at c1
    unfold settingA
    dsimp only at c1 hv h1 hg ⊢
    rcases h1 with ⟨rfl, rfl⟩ | ⟨tt, rfl⟩ <;> rcases hv with ⟨rfl, rfl⟩ | ⟨t, rfl⟩
    · refine call_clean (fn := Try.f10) rfl Try.func10 rfl rfl rfl rfl rfl (Nat.le_of_ble_eq_true rfl) ?_
      conv => whnf
      with_reducible refine ⟨_, _, c1 _ _, ?_⟩
      conv => whnf
      cases z0 : decide (r > Int.ofNat 40000)
      · conv => whnf
        (rw [hg]; simp_all; done)
      · conv => whnf
        (rw [hg]; simp_all; done)
    · refine call_clean (fn := Try.f10) rfl Try.func10 rfl rfl rfl rfl rfl (Nat.le_of_ble_eq_true rfl) ?_
      conv => whnf
      with_reducible refine ⟨_, _, c1 _ _, ?_⟩
      conv => whnf
      cases z0 : decide (r > Int.ofNat 40000)
      · conv => whnf
        (rw [hg]; simp_all; omega)
      · conv => whnf
        (rw [hg]; simp_all; done)
    · refine call_clean (fn := Try.f10) rfl Try.func10 rfl rfl rfl rfl rfl (Nat.le_of_ble_eq_true rfl) ?_
      conv => whnf
      with_reducible refine ⟨_, _, c1 _ _, ?_⟩
      conv => whnf
      cases z0 : decide (r > Int.ofNat 40000)
      · conv => whnf
        cases z1 : decide (↑l.length > Int.ofNat 3000)
        · conv => whnf
          (rw [hg]; simp_all; done)
        · conv => whnf
          (rw [hg]; simp_all; done)
      · conv => whnf
        (rw [hg]; simp_all; done)
    · refine call_clean (fn := Try.f10) rfl Try.func10 rfl rfl rfl rfl rfl (Nat.le_of_ble_eq_true rfl) ?_
      conv => whnf
      with_reducible refine ⟨_, _, c1 _ _, ?_⟩
      conv => whnf
      cases z0 : decide (r > Int.ofNat 40000)
      · conv => whnf
        cases z1 : decide (↑l.length > Int.ofNat 3000)
        · conv => whnf
          (rw [hg]; (try rw [show decide (r > 40000) = false from ‹_›]);   (try rw [show decide ((l.length : Int) > 3000) = false from ‹_›]); rfl)
        · conv => whnf
          (rw [hg]; simp_all; done)
      · conv => whnf
        (rw [hg]; simp_all; done)
theorem sameTree2_c (m : Nat) (from_ : FuncId) (h : H) (l1 l2 : List NodeS) (t1 t2 : Bool) (g1 g2 : Int) (hl : l1.length ≤ 140737488351232) (hk1 : ∀ x ∈ l1, x.ok ∧ x.bytes.length ≤ 140737488351232 ∧ x.ents.length ≤ 140737488351232) (hk2 : ∀ x ∈ l2, x.ok) : evCall TE (m + 4) from_ (.fn 13 [] []) [.agg [.sl (nodesA l1) l1.length t1, .int .u32 g1], .agg [.sl (nodesA l2) l2.length t2, .int .u32 g2]] h = some (.ret (.bool (allSame nodeEq l1 l2 && g1 == g2)), h) := by
  have c1 : ∀ (f : FuncId) (h : H), (evAll TE (m + 3)).1 f (.fn 48 [] []) [.sl (nodesA l1) l1.length t1, .sl (nodesA l2) l2.length t2] h = some (.ret (.bool (allSame nodeEq l1 l2)), h) := fun f h => sameNodes_c m f h _ _ _ _ (.inr ⟨t1, rfl⟩) (.inr ⟨t2, rfl⟩) hl hk1 hk2
  obtain ⟨q, hq⟩ : ∃ q, q = allSame nodeEq l1 l2 := ⟨_, rfl⟩
  rw [← hq] at c1 ⊢
  clear hq
  refine call_clean (fn := Try.f13) rfl Try.func13 rfl rfl rfl rfl rfl (Nat.le_of_ble_eq_true rfl) ?_
  conv => whnf
  with_reducible refine ⟨_, _, c1 _ _, ?_⟩
  conv => whnf
  cases q
  · conv => whnf
    rfl
  · conv => whnf
    rfl
end Go.Proofs.Ytbebcbcnibfbhaa.Ab
