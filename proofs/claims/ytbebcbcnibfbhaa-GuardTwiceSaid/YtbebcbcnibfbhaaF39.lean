import Derived.Test.YtbebcbcnibfbhaaF38
/- Over the engine: the law GuardTwice. -/
namespace Go.Proofs.Ytbebcbcnibfbhaa.Ab
open Go Go.RowKit

set_option maxRecDepth 100000
theorem allSame_of {α : Type} {f : α → α → Bool} : ∀ {x y : List α}, x.length = y.length → (∀ (i : Nat) (a b : α), x[i]? = some a → y[i]? = some b → f a b = true) → allSame f x y = true
  | [], [], _, _ => rfl
  | [], _ :: _, h, _ => by simp at h
  | _ :: _, [], h, _ => by simp at h
  | a :: x, b :: y, hl, h => by
    rw [allSame, h 0 a b rfl rfl, allSame_of (by simpa using hl) fun i a b h1 h2 => h (i + 1) a b (by simpa using h1) (by simpa using h2)]
    rfl
theorem like_clone (y : NodeS) : likeN y (cloneN y) := ⟨rfl, rfl, rfl, rfl, rfl, rfl, rfl, rfl, rfl, rfl, rfl, rfl, rfl, rfl, rfl, rfl, rfl, rfl⟩
theorem setN_len (ns : List NodeS) (n : Int) (s : SetS) (ss sn : Int) (x : NodeS) : (setN ns n s ss sn x).length = ns.length := by unfold setN; rw [List.length_set, List.length_map]
theorem cloneN_fit {x : NodeS} (h : x.fit) : (cloneN x).fit := ⟨⟨bytesC_ok h.1.1, entsC_ok h.1.2⟩, h.2⟩
theorem deeds_fit (s : SetS) (ss sn : Int) (x : NodeS) (h : x.fit) (hsm : s.hs = true → s.size ≤ 65536) : (deeds s ss sn (.sl (numsA .u8 (sized x.bytes s.size.toNat)) s.size.toNat true) (cloneN x)).fit := by
  have h2 := cloneN_fit h
  refine ⟨⟨?_, ?_⟩, ?_, ?_⟩
  · rw [deeds_data, deeds_bytes]
    split
    · exact .inr ⟨true, by rw [show (cloneN x).bytes = x.bytes from rfl, sized_len]⟩
    · exact h2.1.1
  · rw [deeds_list, deeds_ents]
    exact h2.1.2
  · rw [deeds_bytes]
    split
    · rename_i hs
      have := hsm hs
      rw [sized_len]
      omega
    · exact h2.2.1
  · rw [deeds_ents]
    exact h2.2.2
section
variable (ns : List NodeS) (n : Int) (s : SetS) (ss sn : Int) (x : NodeS) (hok : ∀ x ∈ ns, x.fit) (hn : thereS ns n = true) (hx : ns[n.toNat]? = some x) (hsm : s.hs = true → s.size ≤ 65536)
include hx in
theorem setN_get : (setN ns n s ss sn x)[n.toNat]? = some (deeds s ss sn (.sl (numsA .u8 (sized x.bytes s.size.toNat)) s.size.toNat true) (cloneN x)) := by
  unfold setN
  obtain ⟨h1, _⟩ := List.getElem?_eq_some_iff.1 hx
  rw [List.getElem?_set_self (by rw [List.length_map]; exact h1)]
include hok hx hsm in
theorem setN_fit : ∀ y ∈ setN ns n s ss sn x, y.fit := by
  intro y hy
  rcases List.mem_or_eq_of_mem_set hy with h | rfl
  · obtain ⟨z, hz, rfl⟩ := List.mem_map.1 h
    exact cloneN_fit (hok z hz)
  · exact deeds_fit s ss sn x (hok x (List.mem_of_getElem? hx)) hsm
include hn hx in
theorem setN_there : thereS (setN ns n s ss sn x) n = true := by
  have hg := setN_get ns n s ss sn x hx
  unfold thereS kindS at *
  rw [hg, setN_len]
  rw [hx] at hn
  dsimp only at hn ⊢
  rw [deeds_kind]
  exact hn
theorem setN_twice : allSame nodeEq (setN ns n s ss sn x) (setN (setN ns n s ss sn x) n s ss sn (deeds s ss sn (.sl (numsA .u8 (sized x.bytes s.size.toNat)) s.size.toNat true) (cloneN x))) = true := by
  obtain ⟨y, hy⟩ : ∃ y, y = deeds s ss sn (.sl (numsA .u8 (sized x.bytes s.size.toNat)) s.size.toNat true) (cloneN x) := ⟨_, rfl⟩
  rw [← hy]
  refine allSame_of (by rw [setN_len (setN ns n s ss sn x)]) fun i a b ha hb => nodeEq_of ?_
  by_cases hi : i = n.toNat
  · subst hi
    have hlt : n.toNat < ns.length := by
      obtain ⟨h1, _⟩ := List.getElem?_eq_some_iff.1 ha
      rwa [setN_len] at h1
    unfold setN at ha hb
    rw [List.getElem?_set_self (by rw [List.length_map]; exact hlt)] at ha
    rw [List.getElem?_set_self (by rw [List.length_map, List.length_set, List.length_map]; exact hlt)] at hb
    cases ha
    cases hb
    exact deeds_twice s ss sn _ _ _ _ (by rw [hy]; exact like_clone _)
  · unfold setN at ha hb
    rw [List.getElem?_set_ne (fun h => hi h.symm)] at ha
    rw [List.getElem?_set_ne (fun h => hi h.symm), List.getElem?_map, List.getElem?_set_ne (fun h => hi h.symm), ha] at hb
    cases hb
    exact like_clone a
end
/-- Whoever owns all may do it again. -/
theorem root_owns (ns : List NodeS) (n : Int) (hn : thereS ns n = true) : ownsS ns n ⟨0, 0, .sl0, []⟩ = true := by
  unfold ownsS
  rw [hn]
  rfl
theorem root_owner (x : NodeS) (s : SetS) : ownerS x ⟨0, 0, .sl0, []⟩ s true = false := by
  unfold ownerS
  cases s.hm <;> cases s.hu <;> cases s.hg <;> rfl
theorem root_size (x y : NodeS) (s : SetS) (w : Bool) (hk : y.kind = x.kind) (h : sizeB x s w = 0) : sizeB y s true = 0 := by
  unfold sizeB at *
  rw [hk]
  cases h1 : s.hs <;> cases h2 : (x.kind == 2) <;> cases h3 : (x.kind == 5) <;> cases h4 : decide (s.size > 65536) <;> cases w <;> simp_all
theorem root_stamps (s : SetS) : stampsB s true true = 0 := by
  unfold stampsB
  cases (s.rh == 2) <;> cases (s.wh == 2) <;> cases (s.rh == 1) <;> cases (s.wh == 1) <;> rfl
theorem size_most (x : NodeS) (s : SetS) (w : Bool) (h : sizeB x s w = 0) : s.hs = true → s.size ≤ 65536 := by
  intro hs
  unfold sizeB at h
  cases h2 : (x.kind == 2) <;> cases h3 : (x.kind == 5) <;> cases h4 : decide (s.size > 65536) <;> simp_all
  all_goals omega
theorem twice_great (m : Nat) (from_ : FuncId) (h : H) (x : SettingS) (hx : x.ok) (hG : ∀ (f : FuncId) (h : H), evCall TE (m + 59) f (.fn 10 [] []) [settingA x] h = some (.ret (.bool true), h)) : evCall TE (m + 60) from_ (.fn 3 [] []) [settingA x] h = some (.ret (.bool true), h) := by
  have cG : ∀ (f : FuncId) (h : H), (evAll TE (m + 59)).1 f (.fn 10 [] []) [settingA x] h = some (.ret (.bool true), h) := hG
  have cL : ∀ (f : FuncId) (h : H), (evAll TE (m + 59)).1 f (.fn 11 [] []) [] h = some (.ret (.bool true), h) := fun f h => lives16_c (m + 19) f h
  have hv := hx.t.v
  have h1 := hx.c.1
  clear hx
  obtain ⟨⟨v, ns, gen⟩, n, ⟨u, gr, gs, l⟩, ⟨hm, mode, hu, user, hgg, group, hs, size, rh, rs, rn, wh, ws, wn⟩, ss, sn, bo⟩ := x
  unfold settingA at cG ⊢
  dsimp only at cG hv h1 ⊢
  rcases h1 with ⟨rfl, rfl⟩ | ⟨tt, rfl⟩ <;> rcases hv with ⟨rfl, rfl⟩ | ⟨t, rfl⟩
  all_goals refine call_clean (fn := Try.f3) rfl Try.func3 rfl rfl rfl rfl rfl (Nat.le_of_ble_eq_true rfl) ?_
  all_goals
    conv => whnf
    with_reducible refine ⟨_, _, cG _ _, ?_⟩
    conv => whnf
    with_reducible refine ⟨_, _, cL _ _, ?_⟩
    conv => whnf
theorem twice_bad (m : Nat) (from_ : FuncId) (h : H) (x : SettingS) (hx : x.ok) (hG : ∀ (f : FuncId) (h : H), evCall TE (m + 59) f (.fn 10 [] []) [settingA x] h = some (.ret (.bool false), h)) (e : Int) (he : (e != 0) = true) (hS : ∀ (f : FuncId) (h : H), evCall TE (m + 59) f (.fn 12 [] []) [.agg [x.t.v, .int .u32 x.t.gen], .int .i64 x.n, .agg [.int .u32 x.c.user, .int .u32 x.c.group, x.c.gs], .agg (setA x.s), worldA x.ss x.sn x.bo] h = some (.ret (.tup [.agg [.sl0, .int .u32 0], .int .u32 e]), h)) : evCall TE (m + 60) from_ (.fn 3 [] []) [settingA x] h = some (.ret (.bool true), h) := by
  have cG : ∀ (f : FuncId) (h : H), (evAll TE (m + 59)).1 f (.fn 10 [] []) [settingA x] h = some (.ret (.bool false), h) := hG
  have cL : ∀ (f : FuncId) (h : H), (evAll TE (m + 59)).1 f (.fn 11 [] []) [] h = some (.ret (.bool true), h) := fun f h => lives16_c (m + 19) f h
  have cS : ∀ (f : FuncId) (h : H), (evAll TE (m + 59)).1 f (.fn 12 [] []) [.agg [x.t.v, .int .u32 x.t.gen], .int .i64 x.n, .agg [.int .u32 x.c.user, .int .u32 x.c.group, x.c.gs], .agg (setA x.s), worldA x.ss x.sn x.bo] h = some (.ret (.tup [.agg [.sl0, .int .u32 0], .int .u32 e]), h) := hS
  clear hG hS
  have hv := hx.t.v
  have h1 := hx.c.1
  clear hx
  obtain ⟨⟨v, ns, gen⟩, n, ⟨u, gr, gs, l⟩, ⟨hm, mode, hu, user, hgg, group, hs, size, rh, rs, rn, wh, ws, wn⟩, ss, sn, bo⟩ := x
  unfold settingA at cG ⊢
  unfold setA worldA at cS
  dsimp only at cG cS hv h1 ⊢
  rcases h1 with ⟨rfl, rfl⟩ | ⟨tt, rfl⟩ <;> rcases hv with ⟨rfl, rfl⟩ | ⟨t, rfl⟩
  all_goals refine call_clean (fn := Try.f3) rfl Try.func3 rfl rfl rfl rfl rfl (Nat.le_of_ble_eq_true rfl) ?_
  all_goals
    conv => whnf
    with_reducible refine ⟨_, _, cG _ _, ?_⟩
    conv => whnf
    with_reducible refine ⟨_, _, cS _ _, ?_⟩
    conv => whnf
    cases z0 : e != Int.ofNat 0
    · exact Bool.noConfusion (Eq.trans (Eq.symm z0) he)
    · conv => whnf
      with_reducible refine ⟨_, _, cL _ _, ?_⟩
      conv => whnf
theorem twice_ok (m : Nat) (from_ : FuncId) (h : H) (x : SettingS) (hx : x.ok) (hG : ∀ (f : FuncId) (h : H), evCall TE (m + 59) f (.fn 10 [] []) [settingA x] h = some (.ret (.bool false), h)) (t : Bool) (hxv : x.t.v = .sl (nodesA x.t.ns) x.t.ns.length t) (l1 l2 : List NodeS) (hS : ∀ (f : FuncId) (h : H), evCall TE (m + 59) f (.fn 12 [] []) [.agg [x.t.v, .int .u32 x.t.gen], .int .i64 x.n, .agg [.int .u32 x.c.user, .int .u32 x.c.group, x.c.gs], .agg (setA x.s), worldA x.ss x.sn x.bo] h = some (.ret (.tup [.agg [.sl (nodesA l1) l1.length true, .int .u32 x.t.gen], .int .u32 0]), h))
    (hS2 : ∀ (f : FuncId) (h : H), evCall TE (m + 59) f (.fn 12 [] []) [.agg [.sl (nodesA l1) l1.length true, .int .u32 x.t.gen], .int .i64 x.n, .agg [.int .u32 0, .int .u32 0, .sl0], .agg (setA x.s), worldA x.ss x.sn x.bo] h = some (.ret (.tup [.agg [.sl (nodesA l2) l2.length true, .int .u32 x.t.gen], .int .u32 0]), h))
    (hT : ∀ (f : FuncId) (h : H), evCall TE (m + 59) f (.fn 13 [] []) [.agg [.sl (nodesA l1) l1.length true, .int .u32 x.t.gen], .agg [.sl (nodesA l2) l2.length true, .int .u32 x.t.gen]] h = some (.ret (.bool true), h)) : evCall TE (m + 60) from_ (.fn 3 [] []) [settingA x] h = some (.ret (.bool true), h) := by
  have cG : ∀ (f : FuncId) (h : H), (evAll TE (m + 59)).1 f (.fn 10 [] []) [settingA x] h = some (.ret (.bool false), h) := hG
  have cL : ∀ (f : FuncId) (h : H), (evAll TE (m + 59)).1 f (.fn 11 [] []) [] h = some (.ret (.bool true), h) := fun f h => lives16_c (m + 19) f h
  have cS : ∀ (f : FuncId) (h : H), (evAll TE (m + 59)).1 f (.fn 12 [] []) [.agg [x.t.v, .int .u32 x.t.gen], .int .i64 x.n, .agg [.int .u32 x.c.user, .int .u32 x.c.group, x.c.gs], .agg (setA x.s), worldA x.ss x.sn x.bo] h = some (.ret (.tup [.agg [.sl (nodesA l1) l1.length true, .int .u32 x.t.gen], .int .u32 0]), h) := hS
  have cS2 : ∀ (f : FuncId) (h : H), (evAll TE (m + 59)).1 f (.fn 12 [] []) [.agg [.sl (nodesA l1) l1.length true, .int .u32 x.t.gen], .int .i64 x.n, .agg [.int .u32 0, .int .u32 0, .sl0], .agg (setA x.s), worldA x.ss x.sn x.bo] h = some (.ret (.tup [.agg [.sl (nodesA l2) l2.length true, .int .u32 x.t.gen], .int .u32 0]), h) := hS2
  have cT : ∀ (f : FuncId) (h : H), (evAll TE (m + 59)).1 f (.fn 13 [] []) [.agg [.sl (nodesA l1) l1.length true, .int .u32 x.t.gen], .agg [.sl (nodesA l2) l2.length true, .int .u32 x.t.gen]] h = some (.ret (.bool true), h) := hT
  clear hG hS hS2 hT

  have h1 := hx.c.1
  clear hx
  obtain ⟨⟨v, ns, gen⟩, n, ⟨u, gr, gs, l⟩, ⟨hm, mode, hu, user, hgg, group, hs, size, rh, rs, rn, wh, ws, wn⟩, ss, sn, bo⟩ := x
  unfold settingA at cG ⊢
  unfold setA worldA at cS cS2
  dsimp only at cG cS cS2 cT hxv h1 ⊢
  subst hxv
  rcases h1 with ⟨rfl, rfl⟩ | ⟨tt, rfl⟩
  all_goals refine call_clean (fn := Try.f3) rfl Try.func3 rfl rfl rfl rfl rfl (Nat.le_of_ble_eq_true rfl) ?_
  all_goals
    conv => whnf
    with_reducible refine ⟨_, _, cG _ _, ?_⟩
    conv => whnf
    with_reducible refine ⟨_, _, cS _ _, ?_⟩
    conv => whnf
    with_reducible refine ⟨_, _, cS2 _ _, ?_⟩
    conv => whnf
    with_reducible refine ⟨_, _, cT _ _, ?_⟩
    conv => whnf
    with_reducible refine ⟨_, _, cL _ _, ?_⟩
    conv => whnf
    rfl
/-- The law, abstractly. -/
theorem twice_law (m : Nat) (from_ : FuncId) (h : H) (x : SettingS) (hx : x.ok) : evCall TE (m + 60) from_ (.fn 3 [] []) [settingA x] h = some (.ret (.bool true), h) := by
  obtain ⟨g, hg, hG⟩ := great16_c (m + 54) x hx
  cases g with
  | true => exact twice_great m from_ h x hx hG
  | false =>
    have hlen := hg rfl
    have hfit : ∀ y ∈ x.t.ns, y.fit := fun y hy => ⟨(hx.t.ns y hy).1, (hx.t.ns y hy).2.bytesL, (hx.t.ns y hy).2.entsL⟩
    cases hn : thereS x.t.ns x.n with
    | false => exact twice_bad m from_ h x hx hG 70 rfl fun f h => set_gone (m + 52) f h x.t.v x.t.ns hx.t.v x.t.gen x.n x.c hx.c x.s x.ss x.sn x.bo hn
    | true =>
      obtain ⟨y, hy⟩ : ∃ y, x.t.ns[x.n.toNat]? = some y := by
        unfold thereS at hn
        simp only [Bool.and_eq_true, decide_eq_true_eq] at hn
        exact ⟨_, List.getElem?_eq_getElem (by omega)⟩
      rcases hx.t.v with ⟨_, hnil⟩ | ⟨t, hxv⟩
      · rw [hnil] at hy
        simp at hy
      obtain ⟨a1, ha1⟩ : ∃ a, a = formS x.s x.sn := ⟨_, rfl⟩
      obtain ⟨a2, ha2⟩ : ∃ a, a = (if ownerS y x.c x.s (ownsS x.t.ns x.n x.c) = true then (1 : Int) else 0) := ⟨_, rfl⟩
      obtain ⟨a3, ha3⟩ : ∃ a, a = sizeB y x.s (ownsS x.t.ns x.n x.c || mayX y x.c 2) := ⟨_, rfl⟩
      obtain ⟨a4, ha4⟩ : ∃ a, a = stampsB x.s (ownsS x.t.ns x.n x.c) (ownsS x.t.ns x.n x.c || mayX y x.c 2) := ⟨_, rfl⟩
      cases hc : (code4 a1 a2 a3 a4 != 0) with
      | true =>
        refine twice_bad m from_ h x hx hG (code4 a1 a2 a3 a4) hc fun f h => ?_
        rw [hxv]
        exact set_bad (m + 52) f h x.t.ns t x.t.gen x.n x.c hx.c x.s x.ss x.sn x.bo hfit hn y hy hlen _ (by rw [ha1, ha2, ha3, ha4]) hc
      | false =>
        have hz : a1 = 0 ∧ a2 = 0 ∧ a3 = 0 ∧ a4 = 0 := by
          unfold code4 at hc
          cases q1 : (a1 != 0) <;> cases q2 : (a2 != 0) <;> cases q3 : (a3 != 0) <;> simp_all
        obtain ⟨z1, z2, z3, z4⟩ := hz
        rw [z1] at ha1
        rw [z2] at ha2
        rw [z3] at ha3
        rw [z4] at ha4
        have e2 : ownerS y x.c x.s (ownsS x.t.ns x.n x.c) = false := by
          cases q : ownerS y x.c x.s (ownsS x.t.ns x.n x.c) with
          | false => rfl
          | true => rw [q] at ha2; simp at ha2
        have hsm := size_most y x.s _ ha3.symm
        have hs1 := fun (f : FuncId) (h : H) => set_ok (m + 52) f h x.t.ns t x.t.gen x.n x.c hx.c x.s x.ss x.sn x.bo hfit hn y hy hlen hx.size.1 hsm ha1.symm e2 ha3.symm ha4.symm
        have hg2 := setN_get x.t.ns x.n x.s x.ss x.sn y hy
        have ht2 := setN_there x.t.ns x.n x.s x.ss x.sn y hn hy
        have hf2 := setN_fit x.t.ns x.n x.s x.ss x.sn y hfit hy hsm
        have hl2 := setN_len x.t.ns x.n x.s x.ss x.sn y
        have hw := setN_twice x.t.ns x.n x.s x.ss x.sn y
        obtain ⟨z, hz⟩ : ∃ z, z = deeds x.s x.ss x.sn (.sl (numsA .u8 (sized y.bytes x.s.size.toNat)) x.s.size.toNat true) (cloneN y) := ⟨_, rfl⟩
        have hk : z.kind = y.kind := by rw [hz, deeds_kind]; rfl
        rw [← hz] at hg2 hw
        have ho := root_owns _ _ ht2
        have hs2 := fun (f : FuncId) (h : H) => set_ok (m + 52) f h (setN x.t.ns x.n x.s x.ss x.sn y) true x.t.gen x.n ⟨0, 0, .sl0, []⟩ ⟨.inl ⟨rfl, rfl⟩, Nat.zero_le _⟩ x.s x.ss x.sn x.bo hf2 ht2 z hg2 (by rw [hl2]; exact hlen) hx.size.1 hsm ha1.symm (by rw [ho]; exact root_owner _ _) (by rw [ho]; exact root_size y z x.s _ hk ha3.symm) (by rw [ho]; exact root_stamps _)
        refine twice_ok m from_ h x hx hG t hxv (setN x.t.ns x.n x.s x.ss x.sn y) (setN (setN x.t.ns x.n x.s x.ss x.sn y) x.n x.s x.ss x.sn z) (fun f h => ?_) (fun f h => ?_) (fun f h => ?_)
        · rw [hxv, hl2]
          exact hs1 f h
        · rw [setN_len (setN x.t.ns x.n x.s x.ss x.sn y)]
          exact hs2 f h
        · have hT := sameTree2_c (m + 55) f h (setN x.t.ns x.n x.s x.ss x.sn y) (setN (setN x.t.ns x.n x.s x.ss x.sn y) x.n x.s x.ss x.sn z) true true x.t.gen x.t.gen (by rw [hl2]; omega) (fun u hu => ⟨(hf2 u hu).1, (hf2 u hu).2.1, by have := (hf2 u hu).2.2; omega⟩) (fun u hu => (setN_fit _ x.n x.s x.ss x.sn z hf2 hg2 hsm u hu).1)
          rw [hw] at hT
          simpa using hT
end Go.Proofs.Ytbebcbcnibfbhaa.Ab
