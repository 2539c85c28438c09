import Derived.Test.YtbebcbcnibfbhaaF4
/- Over the engine: what is asked of a node: guard's asking. -/
namespace Go.Proofs.Ytbebcbcnibfbhaa.Ab
open Go Go.RowKit

/-- What is to be set. -/
structure SetS where
  hm : Bool
  mode : Int
  hu : Bool
  user : Int
  hg : Bool
  group : Int
  hs : Bool
  size : Int
  rh : Int
  rs : Int
  rn : Int
  wh : Int
  ws : Int
  wn : Int
def setA (s : SetS) : List AV := [.bool s.hm, .int .u32 s.mode, .bool s.hu, .int .u32 s.user, .bool s.hg, .int .u32 s.group, .bool s.hs, .int .u64 s.size, .int .u32 s.rh, .int .u32 s.rs, .int .u32 s.rn, .int .u32 s.wh, .int .u32 s.ws, .int .u32 s.wn]
/-- What is asked, by whom, when. -/
def askA (v : AV) (gen n : Int) (c : CredS) (s : SetS) (ss sn : Int) (owns : Bool) : AV :=
  .agg [v, .int .u32 gen, .int .i64 n, .int .u32 c.user, .int .u32 c.group, c.gs, .bool s.hm, .int .u32 s.mode, .bool s.hu, .int .u32 s.user, .bool s.hg, .int .u32 s.group, .bool s.hs, .int .u64 s.size, .int .u32 s.rh, .int .u32 s.rs, .int .u32 s.rn, .int .u32 s.wh, .int .u32 s.ws, .int .u32 s.wn, .int .u32 ss, .int .u32 sn, .bool owns]
set_option maxRecDepth 100000
def nanoOk (n : Int) : Bool := decide (n < 1000000000)
theorem times_c (m : Nat) (from_ : FuncId) (h : H) (s n : Int) : evCall TE (m + 1) from_ (.fn 67 [] []) [.agg [.int .u32 s, .int .u32 n]] h = some (.ret (.bool (nanoOk n)), h) := by
  refine call_clean (fn := Try.f67) rfl Try.func67 rfl rfl rfl rfl rfl (Nat.le_of_ble_eq_true rfl) ?_
  conv => whnf
  rfl
def ownsS (ns : List NodeS) (n : Int) (c : CredS) : Bool := thereS ns n && (c.user == 0 || c.user == (match ns[n.toNat]? with | some x => x.user | none => 0))
theorem owns_c (m : Nat) (from_ : FuncId) (h : H) (v : AV) (ns : List NodeS) (hv : nodesOk v ns) (hok : ∀ x ∈ ns, x.ok) (gen n : Int) (c : CredS) (hc : c.ok) : evCall TE (m + 3) from_ (.fn 34 [] []) [.agg [v, .int .u32 gen], .int .i64 n, credA c] h = some (.ret (.bool (ownsS ns n c)), h) := by
  unfold ownsS
  cases hn : thereS ns n with
  | false =>
    have hat := fun (f : FuncId) (h : H) => attrs_none m f h v ns hv gen n hn
    obtain ⟨u, gr, gs, l⟩ := c
    obtain ⟨h1, h2⟩ := hc
    dsimp only at h1 h2
    rcases h1 with ⟨rfl, rfl⟩ | ⟨tt, rfl⟩ <;> rcases hv with ⟨rfl, rfl⟩ | ⟨t, rfl⟩
    all_goals refine call_clean (fn := Try.f34) rfl Try.func34 rfl rfl rfl rfl rfl (Nat.le_of_ble_eq_true rfl) ?_
    all_goals conv => whnf
    all_goals refine ⟨_, _, hat _ _, ?_⟩
    all_goals conv => whnf
    all_goals rfl
  | true =>
    obtain ⟨x, hx⟩ : ∃ x, ns[n.toNat]? = some x := by
      unfold thereS at hn
      simp only [Bool.and_eq_true, decide_eq_true_eq] at hn
      exact ⟨_, List.getElem?_eq_getElem (by omega)⟩
    have hat := fun (f : FuncId) (h : H) => attrs_some m f h v ns hv gen n x hn hx (hok x (List.mem_of_getElem? hx))
    obtain ⟨u, gr, gs, l⟩ := c
    obtain ⟨h1, h2⟩ := hc
    dsimp only at h1 h2
    rw [hx]
    dsimp only
    rcases h1 with ⟨rfl, rfl⟩ | ⟨tt, rfl⟩ <;> rcases hv with ⟨rfl, rfl⟩ | ⟨t, rfl⟩
    all_goals refine call_clean (fn := Try.f34) rfl Try.func34 rfl rfl rfl rfl rfl (Nat.le_of_ble_eq_true rfl) ?_
    all_goals conv => whnf
    all_goals refine ⟨_, _, hat _ _, ?_⟩
    all_goals conv => whnf
    all_goals cases h3 : u == 0
    all_goals conv => whnf
    all_goals rfl
/-- The refusals: of the form. -/
def badT (how nano : Int) : Bool := decide (how > 2) || (how == 2 && !nanoOk nano)
def form0 (s : SetS) (sn : Int) : Bool := (s.hm && decide (s.mode > 4095)) || !nanoOk sn
def form1 (s : SetS) (sn : Int) : Bool := form0 s sn || badT s.rh s.rn
def form2 (s : SetS) (sn : Int) : Bool := form1 s sn || badT s.wh s.wn
def formS (s : SetS) (sn : Int) : Int := if form2 s sn = true then 22 else 0
def writesS (ns : List NodeS) (n : Int) (c : CredS) (owns : Bool) : Bool := owns || (match ns[n.toNat]? with | some x => mayX x c 2 | none => false)
def ownerS (x : NodeS) (c : CredS) (s : SetS) (owns : Bool) : Bool :=
  (s.hm && !owns) || (s.hu && !(c.user == 0) && (!owns || s.user != x.user)) || (s.hg && (!owns || (!(c.user == 0) && s.group != x.group && !inS c s.group)))
def sizeB (x : NodeS) (s : SetS) (w : Bool) : Int := if s.hs = false then 0 else if (x.kind == 2) = true then 21 else if (x.kind == 5) = true then 22 else if decide (s.size > 65536) = true then 27 else if w = false then 13 else 0
def stampsB (s : SetS) (owns w : Bool) : Int := if ((s.rh == 2 || s.wh == 2) && !owns) = true then 1 else if ((s.rh == 1 || s.wh == 1) && !w) = true then 13 else 0
section
variable (m : Nat) (from_ : FuncId) (h : H) (ns : List NodeS) (t : Bool) (gen n : Int) (c : CredS) (hc : c.ok) (s : SetS) (ss sn : Int) (owns : Bool)
include hc
theorem times2_c : evCall TE (m + 1) from_ (.fn 76 [] []) [askA (.sl (nodesA ns) ns.length t) gen n c s ss sn owns] h = some (.ret (.agg [.int .u32 s.rh, .int .u32 s.rs, .int .u32 s.rn, .int .u32 s.wh, .int .u32 s.ws, .int .u32 s.wn]), h) := by
  obtain ⟨u, gr, gs, l⟩ := c
  obtain ⟨h1, h2⟩ := hc
  dsimp only at h1 h2
  rcases h1 with ⟨rfl, rfl⟩ | ⟨tt, rfl⟩
  all_goals refine call_clean (fn := Try.f76) rfl Try.func76 rfl rfl rfl rfl rfl (Nat.le_of_ble_eq_true rfl) ?_
  all_goals conv => whnf
  all_goals rfl
set_option maxHeartbeats 4000000 in
theorem form_c : evCall TE (m + 2) from_ (.fn 35 [] []) [askA (.sl (nodesA ns) ns.length t) gen n c s ss sn owns] h = some (.ret (.int .u32 (formS s sn)), h) := by
  have c1 : ∀ (f : FuncId) (h : H) (a b : Int), (evAll TE (m + 1)).1 f (.fn 67 [] []) [.agg [.int .u32 a, .int .u32 b]] h = some (.ret (.bool (nanoOk b)), h) := fun f h a b => times_c m f h a b
  have c2 : ∀ (f : FuncId) (h : H), (evAll TE (m + 1)).1 f (.fn 76 [] []) [askA (.sl (nodesA ns) ns.length t) gen n c s ss sn owns] h = some (.ret (.agg [.int .u32 s.rh, .int .u32 s.rs, .int .u32 s.rn, .int .u32 s.wh, .int .u32 s.ws, .int .u32 s.wn]), h) := fun f h => times2_c m f h ns t gen n c hc s ss sn owns
  obtain ⟨r, hr⟩ : ∃ r, r = formS s sn := ⟨_, rfl⟩
  rw [← hr]
  obtain ⟨u, gr, gs, l⟩ := c
  obtain ⟨h1, h2⟩ := hc
  dsimp only at h1 h2
  obtain ⟨hm, mode, hu, user, hg, group, hs, size, rh, rs, rn, wh, ws, wn⟩ := s
  unfold formS form2 form1 form0 badT at hr
  unfold askA at c2 ⊢
  dsimp only at c2 hr ⊢
  rcases h1 with ⟨rfl, rfl⟩ | ⟨tt, rfl⟩
  all_goals refine call_clean (fn := Try.f35) rfl Try.func35 rfl rfl rfl rfl rfl (Nat.le_of_ble_eq_true rfl) ?_
  all_goals
    conv => whnf
    cases hm
    · conv => whnf
      with_reducible refine ⟨_, _, c1 _ _ _ _, ?_⟩
      conv => whnf
      with_reducible refine ⟨_, _, c2 _ _, ?_⟩
      conv => whnf
      (with_reducible refine ⟨(3 : Nat), ?_, ?_⟩; · exact Nat.le_of_ble_eq_true rfl)
      conv => whnf
      cases z1 : nanoOk sn
      · conv => whnf
        (rw [hr]; simp_all; done)
      · conv => whnf
        cases z2 : decide (rh > Int.ofNat 2)
        · conv => whnf
          cases z3 : rh == Int.ofNat 2
          · conv => whnf
            cases z4 : decide (wh > Int.ofNat 2)
            · conv => whnf
              cases z5 : wh == Int.ofNat 2
              · conv => whnf
                (rw [hr]; simp_all; done)
              · conv => whnf
                with_reducible refine ⟨_, _, c1 _ _ _ _, ?_⟩
                conv => whnf
                cases z6 : nanoOk wn
                · conv => whnf
                  (rw [hr]; simp_all; done)
                · conv => whnf
                  (rw [hr]; simp_all; done)
            · conv => whnf
              (rw [hr]; simp_all; done)
          · conv => whnf
            with_reducible refine ⟨_, _, c1 _ _ _ _, ?_⟩
            conv => whnf
            cases z7 : nanoOk rn
            · conv => whnf
              (rw [hr]; simp_all; done)
            · conv => whnf
              cases z8 : decide (wh > Int.ofNat 2)
              · conv => whnf
                cases z9 : wh == Int.ofNat 2
                · conv => whnf
                  (rw [hr]; simp_all; done)
                · conv => whnf
                  with_reducible refine ⟨_, _, c1 _ _ _ _, ?_⟩
                  conv => whnf
                  cases z10 : nanoOk wn
                  · conv => whnf
                    (rw [hr]; simp_all; done)
                  · conv => whnf
                    (rw [hr]; simp_all; done)
              · conv => whnf
                (rw [hr]; simp_all; done)
        · conv => whnf
          (rw [hr]; simp_all; done)
    · conv => whnf
      cases z11 : decide (mode > Int.ofNat 4095)
      · conv => whnf
        with_reducible refine ⟨_, _, c1 _ _ _ _, ?_⟩
        conv => whnf
        with_reducible refine ⟨_, _, c2 _ _, ?_⟩
        conv => whnf
        (with_reducible refine ⟨(3 : Nat), ?_, ?_⟩; · exact Nat.le_of_ble_eq_true rfl)
        conv => whnf
        cases z12 : nanoOk sn
        · conv => whnf
          (rw [hr]; simp_all; done)
        · conv => whnf
          cases z13 : decide (rh > Int.ofNat 2)
          · conv => whnf
            cases z14 : rh == Int.ofNat 2
            · conv => whnf
              cases z15 : decide (wh > Int.ofNat 2)
              · conv => whnf
                cases z16 : wh == Int.ofNat 2
                · conv => whnf
                  (rw [hr]; simp_all; done)
                · conv => whnf
                  with_reducible refine ⟨_, _, c1 _ _ _ _, ?_⟩
                  conv => whnf
                  cases z17 : nanoOk wn
                  · conv => whnf
                    (rw [hr]; simp_all; done)
                  · conv => whnf
                    (rw [hr]; simp_all; done)
              · conv => whnf
                (rw [hr]; simp_all; done)
            · conv => whnf
              with_reducible refine ⟨_, _, c1 _ _ _ _, ?_⟩
              conv => whnf
              cases z18 : nanoOk rn
              · conv => whnf
                (rw [hr]; simp_all; done)
              · conv => whnf
                cases z19 : decide (wh > Int.ofNat 2)
                · conv => whnf
                  cases z20 : wh == Int.ofNat 2
                  · conv => whnf
                    (rw [hr]; simp_all; done)
                  · conv => whnf
                    with_reducible refine ⟨_, _, c1 _ _ _ _, ?_⟩
                    conv => whnf
                    cases z21 : nanoOk wn
                    · conv => whnf
                      (rw [hr]; simp_all; done)
                    · conv => whnf
                      (rw [hr]; simp_all; done)
                · conv => whnf
                  (rw [hr]; simp_all; done)
          · conv => whnf
            (rw [hr]; simp_all; done)
      · conv => whnf
        with_reducible refine ⟨_, _, c2 _ _, ?_⟩
        conv => whnf
        (with_reducible refine ⟨(3 : Nat), ?_, ?_⟩; · exact Nat.le_of_ble_eq_true rfl)
        conv => whnf
        (rw [hr]; simp_all; done)
variable (hok : ∀ x ∈ ns, x.ok) (hn : thereS ns n = true) (x : NodeS) (hx : ns[n.toNat]? = some x)
include hok hn hx
theorem writes_c : evCall TE (m + 5) from_ (.fn 78 [] []) [askA (.sl (nodesA ns) ns.length t) gen n c s ss sn owns] h = some (.ret (.bool (owns || mayX x c 2)), h) := by
  have c1 : ∀ (f : FuncId) (h : H), (evAll TE (m + 4)).1 f (.fn 101 [] []) [.agg [.sl (nodesA ns) ns.length t, .int .u32 gen], .int .i64 n, credA c, .int .u32 2] h = some (.ret (.bool (mayX x c 2)), h) := fun f h => may_some m f h _ ns (.inr ⟨t, rfl⟩) gen n c 2 hc x hn hx (hok x (List.mem_of_getElem? hx))
  obtain ⟨r, hr⟩ : ∃ r, r = mayX x c 2 := ⟨_, rfl⟩
  rw [← hr] at c1 ⊢
  clear hr
  obtain ⟨u, gr, gs, l⟩ := c
  obtain ⟨h1, h2⟩ := hc
  dsimp only at h1 h2
  obtain ⟨hm, mode, hu, user, hg, group, hs, size, rh, rs, rn, wh, ws, wn⟩ := s
  unfold askA
  dsimp only at c1 ⊢
  rcases h1 with ⟨rfl, rfl⟩ | ⟨tt, rfl⟩
  all_goals refine call_clean (fn := Try.f78) rfl Try.func78 rfl rfl rfl rfl rfl (Nat.le_of_ble_eq_true rfl) ?_
  all_goals
    conv => whnf
    cases owns
    · conv => whnf
      with_reducible refine ⟨_, _, c1 _ _, ?_⟩
      conv => whnf
      rfl
    · conv => whnf
      rfl
set_option maxHeartbeats 4000000 in
theorem owner_c : evCall TE (m + 5) from_ (.fn 36 [] []) [askA (.sl (nodesA ns) ns.length t) gen n c s ss sn owns] h = some (.ret (.int .u32 (if ownerS x c s owns = true then 1 else 0)), h) := by
  have c1 : ∀ (f : FuncId) (h : H), (evAll TE (m + 4)).1 f (.fn 77 [] []) [credA c, .int .u32 s.group] h = some (.ret (.bool (inS c s.group)), h) := fun f h => in_c (m + 1) f h c s.group hc
  obtain ⟨q, hq⟩ : ∃ q, q = inS c s.group := ⟨_, rfl⟩
  rw [← hq] at c1
  obtain ⟨r, hr⟩ : ∃ r, r = if ownerS x c s owns = true then (1 : Int) else 0 := ⟨_, rfl⟩
  rw [← hr]
  unfold ownerS at hr
  rw [← hq] at hr
  clear hq
  unfold thereS at hn
  rw [Bool.and_eq_true, Bool.and_eq_true, decide_eq_true_eq, decide_eq_true_eq] at hn
  have hn0 : 0 ≤ n := by omega
  have hn1 := hn.2.1
  have hlen : n.toNat * 25 + 25 ≤ (nodesA ns).length := by rw [nodesA_len]; omega
  have hxok := hok x (List.mem_of_getElem? hx)
  have hrow := nodesA_node hx
  clear hn hok
  obtain ⟨kd, ge, mo, us, ng, li, xrs, xrn, xws, xwn, ts, tn, da, by_, vf, ta, ls, es, pa, nx⟩ := x
  simp only [NodeS.ok, rowOk, entsOk] at hxok
  obtain ⟨hd, hl⟩ := hxok
  obtain ⟨u, gr, gs, l⟩ := c
  obtain ⟨h1, h2⟩ := hc
  dsimp only at h1 h2
  obtain ⟨hm, mode, hu, user, hg, group, hs, size, rh, rs, rn, wh, ws, wn⟩ := s
  unfold askA
  dsimp only at c1 hr ⊢
  clear hx
  rcases h1 with ⟨rfl, rfl⟩ | ⟨tt, rfl⟩ <;> rcases hd with ⟨rfl, rfl⟩ | ⟨dt, rfl⟩ <;> rcases hl with ⟨rfl, rfl⟩ | ⟨lt, rfl⟩
  all_goals refine call_clean (fn := Try.f36) rfl Try.func36 rfl rfl rfl rfl rfl (Nat.le_of_ble_eq_true rfl) ?_
  all_goals
    conv => whnf
    (refine runK_ret (ev_indexSl (sz := 25) rfl rfl rfl rfl hn0 hn1) ?_)
    conv => whnf
    (refine runK_ret (ev_loadVA (z := 25) rfl rfl rfl hlen hrow) ?_)
    conv => whnf
    (refine ⟨by kernel_rfl, ?_⟩)
    conv => whnf
    cases hm
    · conv => whnf
      cases hu
      · conv => whnf
        cases hg
        · conv => whnf
          (rw [hr]; simp_all; done)
        · conv => whnf
          cases owns
          · conv => whnf
            (rw [hr]; simp_all; done)
          · conv => whnf
            cases z4 : u == Int.ofNat 0
            · conv => whnf
              cases z5 : group != ng
              · conv => whnf
                (rw [hr]; simp_all; done)
              · conv => whnf
                with_reducible refine ⟨_, _, c1 _ _, ?_⟩
                conv => whnf
                cases q
                · conv => whnf
                  (rw [hr]; simp_all; done)
                · conv => whnf
                  (rw [hr]; simp_all; done)
            · conv => whnf
              (rw [hr]; simp_all; done)
      · conv => whnf
        cases z7 : u == Int.ofNat 0
        · conv => whnf
          cases owns
          · conv => whnf
            (rw [hr]; simp_all; done)
          · conv => whnf
            cases z9 : user != us
            · conv => whnf
              cases hg
              · conv => whnf
                (rw [hr]; simp_all; done)
              · conv => whnf
                cases z11 : group != ng
                · conv => whnf
                  (rw [hr]; simp_all; done)
                · conv => whnf
                  with_reducible refine ⟨_, _, c1 _ _, ?_⟩
                  conv => whnf
                  cases q
                  · conv => whnf
                    (rw [hr]; simp_all; done)
                  · conv => whnf
                    (rw [hr]; simp_all; done)
            · conv => whnf
              (rw [hr]; simp_all; done)
        · conv => whnf
          cases hg
          · conv => whnf
            (rw [hr]; simp_all; done)
          · conv => whnf
            cases owns
            · conv => whnf
              (rw [hr]; simp_all; done)
            · conv => whnf
              (rw [hr]; simp_all; done)
    · conv => whnf
      cases owns
      · conv => whnf
        (rw [hr]; simp_all; done)
      · conv => whnf
        cases hu
        · conv => whnf
          cases hg
          · conv => whnf
            (rw [hr]; simp_all; done)
          · conv => whnf
            cases z18 : u == Int.ofNat 0
            · conv => whnf
              cases z19 : group != ng
              · conv => whnf
                (rw [hr]; simp_all; done)
              · conv => whnf
                with_reducible refine ⟨_, _, c1 _ _, ?_⟩
                conv => whnf
                cases q
                · conv => whnf
                  (rw [hr]; simp_all; done)
                · conv => whnf
                  (rw [hr]; simp_all; done)
            · conv => whnf
              (rw [hr]; simp_all; done)
        · conv => whnf
          cases z21 : u == Int.ofNat 0
          · conv => whnf
            cases z22 : user != us
            · conv => whnf
              cases hg
              · conv => whnf
                (rw [hr]; simp_all; done)
              · conv => whnf
                cases z24 : group != ng
                · conv => whnf
                  (rw [hr]; simp_all; done)
                · conv => whnf
                  with_reducible refine ⟨_, _, c1 _ _, ?_⟩
                  conv => whnf
                  cases q
                  · conv => whnf
                    (rw [hr]; simp_all; done)
                  · conv => whnf
                    (rw [hr]; simp_all; done)
            · conv => whnf
              (rw [hr]; simp_all; done)
          · conv => whnf
            cases hg
            · conv => whnf
              (rw [hr]; simp_all; done)
            · conv => whnf
              (rw [hr]; simp_all; done)
set_option maxHeartbeats 4000000 in
theorem size_c : evCall TE (m + 6) from_ (.fn 37 [] []) [askA (.sl (nodesA ns) ns.length t) gen n c s ss sn owns] h = some (.ret (.int .u32 (sizeB x s (owns || mayX x c 2))), h) := by
  have c1 : ∀ (f : FuncId) (h : H), (evAll TE (m + 5)).1 f (.fn 78 [] []) [askA (.sl (nodesA ns) ns.length t) gen n c s ss sn owns] h = some (.ret (.bool (owns || mayX x c 2)), h) := fun f h => writes_c m f h ns t gen n c hc s ss sn owns hok hn x hx
  obtain ⟨w, hw⟩ : ∃ w, w = (owns || mayX x c 2) := ⟨_, rfl⟩
  rw [← hw] at c1 ⊢
  clear hw
  obtain ⟨r, hr⟩ : ∃ r, r = sizeB x s w := ⟨_, rfl⟩
  rw [← hr]
  unfold sizeB at hr
  unfold thereS at hn
  rw [Bool.and_eq_true, Bool.and_eq_true, decide_eq_true_eq, decide_eq_true_eq] at hn
  have hn0 : 0 ≤ n := by omega
  have hn1 := hn.2.1
  have hcell := (nodesA_cell hx 0 (by decide)).trans (b := (nodeA x)[0]?) rfl
  have hcell : (nodesA ns)[n.toNat * 25 + 0]? = some (.int .u32 x.kind) := hcell
  clear hn hok
  obtain ⟨kd, hkd⟩ : ∃ k, k = x.kind := ⟨_, rfl⟩
  rw [← hkd] at hcell hr
  clear hkd hx
  obtain ⟨u, gr, gs, l⟩ := c
  obtain ⟨h1, h2⟩ := hc
  dsimp only at h1 h2
  obtain ⟨hm, mode, hu, user, hg, group, hs, size, rh, rs, rn, wh, ws, wn⟩ := s
  unfold askA at c1 ⊢
  dsimp only at c1 hr ⊢
  rcases h1 with ⟨rfl, rfl⟩ | ⟨tt, rfl⟩
  all_goals refine call_clean (fn := Try.f37) rfl Try.func37 rfl rfl rfl rfl rfl (Nat.le_of_ble_eq_true rfl) ?_
  all_goals
    conv => whnf
    (refine runK_ret (ev_indexSl (sz := 25) rfl rfl rfl rfl hn0 hn1) ?_)
    conv => whnf
    (refine runK_ret (ev_loadV (z := 1) rfl rfl rfl hcell) ?_)
    conv => whnf
    cases hs
    · conv => whnf
      (rw [hr]; simp_all; done)
    · conv => whnf
      cases z1 : kd == Int.ofNat 2
      · conv => whnf
        cases z2 : kd == Int.ofNat 5
        · conv => whnf
          cases z3 : decide (size > Int.ofNat 65536)
          · conv => whnf
            with_reducible refine ⟨_, _, c1 _ _, ?_⟩
            conv => whnf
            cases w
            · conv => whnf
              (rw [hr]; simp_all; done)
            · conv => whnf
              (rw [hr]; simp_all; done)
          · conv => whnf
            (rw [hr]; simp_all; done)
        · conv => whnf
          (rw [hr]; simp_all; done)
      · conv => whnf
        (rw [hr]; simp_all; done)
set_option maxHeartbeats 4000000 in
theorem stamps_c : evCall TE (m + 6) from_ (.fn 38 [] []) [askA (.sl (nodesA ns) ns.length t) gen n c s ss sn owns] h = some (.ret (.int .u32 (stampsB s owns (owns || mayX x c 2))), h) := by
  have c1 : ∀ (f : FuncId) (h : H), (evAll TE (m + 5)).1 f (.fn 78 [] []) [askA (.sl (nodesA ns) ns.length t) gen n c s ss sn owns] h = some (.ret (.bool (owns || mayX x c 2)), h) := fun f h => writes_c m f h ns t gen n c hc s ss sn owns hok hn x hx
  have c2 : ∀ (f : FuncId) (h : H), (evAll TE (m + 5)).1 f (.fn 76 [] []) [askA (.sl (nodesA ns) ns.length t) gen n c s ss sn owns] h = some (.ret (.agg [.int .u32 s.rh, .int .u32 s.rs, .int .u32 s.rn, .int .u32 s.wh, .int .u32 s.ws, .int .u32 s.wn]), h) := fun f h => times2_c (m + 4) f h ns t gen n c hc s ss sn owns
  obtain ⟨w, hw⟩ : ∃ w, w = (owns || mayX x c 2) := ⟨_, rfl⟩
  rw [← hw] at c1 ⊢
  clear hw
  obtain ⟨r, hr⟩ : ∃ r, r = stampsB s owns w := ⟨_, rfl⟩
  rw [← hr]
  unfold stampsB at hr
  clear hn hok hx
  obtain ⟨u, gr, gs, l⟩ := c
  obtain ⟨h1, h2⟩ := hc
  dsimp only at h1 h2
  obtain ⟨hm, mode, hu, user, hg, group, hs, size, rh, rs, rn, wh, ws, wn⟩ := s
  unfold askA at c1 c2 ⊢
  dsimp only at c1 c2 hr ⊢
  rcases h1 with ⟨rfl, rfl⟩ | ⟨tt, rfl⟩
  all_goals refine call_clean (fn := Try.f38) rfl Try.func38 rfl rfl rfl rfl rfl (Nat.le_of_ble_eq_true rfl) ?_
  all_goals
    conv => whnf
    with_reducible refine ⟨_, _, c2 _ _, ?_⟩
    conv => whnf
    (with_reducible refine ⟨(3 : Nat), ?_, ?_⟩; · exact Nat.le_of_ble_eq_true rfl)
    conv => whnf
    (refine ⟨by kernel_rfl, ?_⟩)
    conv => whnf
    cases z0 : rh == Int.ofNat 2
    · conv => whnf
      cases z1 : rh == Int.ofNat 1
      · conv => whnf
        (refine ⟨by kernel_rfl, ?_⟩)
        conv => whnf
        cases z2 : wh == Int.ofNat 2
        · conv => whnf
          cases z3 : wh == Int.ofNat 1
          · conv => whnf
            (rw [hr]; simp_all; done)
          · conv => whnf
            with_reducible refine ⟨_, _, c1 _ _, ?_⟩
            conv => whnf
            cases w
            · conv => whnf
              (rw [hr]; simp_all; done)
            · conv => whnf
              (rw [hr]; simp_all; done)
        · conv => whnf
          cases owns
          · conv => whnf
            (rw [hr]; simp_all; done)
          · conv => whnf
            cases z6 : wh == Int.ofNat 1
            · conv => whnf
              (rw [hr]; simp_all; done)
            · conv => whnf
              with_reducible refine ⟨_, _, c1 _ _, ?_⟩
              conv => whnf
              cases w
              · conv => whnf
                (rw [hr]; simp_all; done)
              · conv => whnf
                (rw [hr]; simp_all; done)
      · conv => whnf
        (refine ⟨by kernel_rfl, ?_⟩)
        conv => whnf
        cases z8 : wh == Int.ofNat 2
        · conv => whnf
          with_reducible refine ⟨_, _, c1 _ _, ?_⟩
          conv => whnf
          cases w
          · conv => whnf
            (rw [hr]; simp_all; done)
          · conv => whnf
            (rw [hr]; simp_all; done)
        · conv => whnf
          cases owns
          · conv => whnf
            (rw [hr]; simp_all; done)
          · conv => whnf
            with_reducible refine ⟨_, _, c1 _ _, ?_⟩
            conv => whnf
            cases w
            · conv => whnf
              (rw [hr]; simp_all; done)
            · conv => whnf
              (rw [hr]; simp_all; done)
    · conv => whnf
      cases z12 : rh == Int.ofNat 1
      · conv => whnf
        (refine ⟨by kernel_rfl, ?_⟩)
        conv => whnf
        cases owns
        · conv => whnf
          (rw [hr]; simp_all; done)
        · conv => whnf
          cases z14 : wh == Int.ofNat 1
          · conv => whnf
            (rw [hr]; simp_all; done)
          · conv => whnf
            with_reducible refine ⟨_, _, c1 _ _, ?_⟩
            conv => whnf
            cases w
            · conv => whnf
              (rw [hr]; simp_all; done)
            · conv => whnf
              (rw [hr]; simp_all; done)
      · conv => whnf
        (refine ⟨by kernel_rfl, ?_⟩)
        conv => whnf
        cases owns
        · conv => whnf
          (rw [hr]; simp_all; done)
        · conv => whnf
          with_reducible refine ⟨_, _, c1 _ _, ?_⟩
          conv => whnf
          cases w
          · conv => whnf
            (rw [hr]; simp_all; done)
          · conv => whnf
            (rw [hr]; simp_all; done)
end
end Go.Proofs.Ytbebcbcnibfbhaa.Ab
