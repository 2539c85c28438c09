import Derived.Test.YtnkeijebkpjdgaaMLookKeeps23
import Derived.Test.YtnkeijebkpjdgaaMLookKeeps26
set_option linter.unusedVariables false
set_option linter.unusedSimpArgs false
/- Over the engine: what only looks: a file that is read. -/
namespace Go.Proofs.Ytnkeijebkpjdgaa.Ab
open Go Go.RowKit

set_option maxRecDepth 100000
theorem numsA_drop (k : IntKind) (l : List Int) (n : Nat) : (numsA k l).drop n = numsA k (l.drop n) := by
  unfold numsA
  rw [List.map_drop]
theorem seal_tupR {d : List AB → List AV → List AV × List AB} {bs bs' : List AB} {v v' : AV} {k : IntKind} {g : Int} {r : List AV} (h : sealV d bs v = (v', bs')) (hr : cleanL r = true) : sealV d bs (.tup [.agg [v, .int k g], .agg r]) = (.tup [.agg [v', .int k g], .agg r], bs') := by
  simp only [sealV, sealVL, h, sealVL_clean d bs' r hr]
set_option maxHeartbeats 8000000 in
theorem twinL_K (m : Nat) (f : FuncId) (K : AV → H → Prop) (ns : List NodeS) (t : Bool) (gen : Int) (hok : ∀ x ∈ ns, x.fit) (hlen : ns.length ≤ 1025) (hlen2 : ns ≠ []) (b0 b1 b2 b3 b4 b5 b6 b7 b8 b9 b10 b11 b12 b13 b14 b15 b16 b17 b18 b19 b20 b21 b22 b23 b24 b25 b26 b27 b28 b29 b30 b31 b32 b33 b34 b35 b36 b37 b38 b39 b40 b41 b42 b43 b44 b45 b46 b47 b48 b49 b50 b51 b52 b53 b54 b55 b56 b57 b58 b59 b60 b61 b62 b63 b64 b65 b66 : AB) (cnt : Nat) (hcnt : ns.length = cnt) (hraw : TE.raw f 30 = true)
    (hk : ∀ L : List NodeS, L = ns.map cloneN → K (.agg [.rsl 70 0 cnt (some cnt) ((nodesA ns).length + 1), .int .u32 gen]) ⟨[b0, b1, b2, b3, b4, b5, b6, b7, b8, b9, b10, b11, b12, b13, b14, b15, b16, b17, b18, b19, b20, b21, b22, b23, b24, b25, b26, b27, b28, b29, b30, b31, b32, b33, b34, b35, b36, b37, b38, b39, b40, b41, b42, b43, b44, b45, b46, b47, b48, b49, b50, b51, b52, b53, b54, b55, b56, b57, b58, b59, b60, b61, b62, b63, b64, b65, b66, .cells [.rsl 70 0 cnt (some cnt) ((nodesA ns).length + 1), .int .u32 gen] ⟨false, 0, false, true⟩, .cells [.rsl 70 0 cnt (some cnt) ((nodesA ns).length + 1), .int .u32 gen] ⟨false, 0, false, true⟩, .cells [] ⟨false, 25, false, true⟩, .cells (nodesA L) ⟨false, 25, true, true⟩], [(68, 71), (67, 71)]⟩) :
    ∃ v h', (evAll TE (m + 2)).1 f (.fn 30 [] []) [.agg [.sl (nodesA ns) cnt t, .int .u32 gen]] ⟨[b0, b1, b2, b3, b4, b5, b6, b7, b8, b9, b10, b11, b12, b13, b14, b15, b16, b17, b18, b19, b20, b21, b22, b23, b24, b25, b26, b27, b28, b29, b30, b31, b32, b33, b34, b35, b36, b37, b38, b39, b40, b41, b42, b43, b44, b45, b46, b47, b48, b49, b50, b51, b52, b53, b54, b55, b56, b57, b58, b59, b60, b61, b62, b63, b64, b65, b66], []⟩ = some (.ret v, h') ∧ K v h' := by
  subst hcnt
  have kb1 : ∀ (f : FuncId) (h : H) (a : Int) (l : List Int) (t : Bool), (a :: l).length ≤ 140737488351232 → (evAll TE (m + 1)).1 f (.fn 50 [] []) [.sl (numsA .u8 (a :: l)) (a :: l).length t] h = some (.ret (.sl (numsA .u8 (a :: l)) (a :: l).length false), h) := fun f h a l t hl => bytesClone_c m f h a l t (by omega)
  have kb2 : ∀ (f : FuncId) (h : H) (t : Bool), (evAll TE (m + 1)).1 f (.fn 50 [] []) [.sl [] 0 t] h = some (.ret (.sl [] 0 true), h) := fun f h t => bytesClone_0 m f h t
  have kb3 : ∀ (f : FuncId) (h : H), (evAll TE (m + 1)).1 f (.fn 50 [] []) [.sl0] h = some (.ret .sl0, h) := fun f h => bytesClone_nil m f h
  have kb4 : ∀ (f : FuncId) (h : H) (l : List Int) (t : Bool), (evAll TE (m + 1)).1 f (.fn 49 [] []) [.sl (numsA .u8 l) l.length t] h = some (.ret (.sl (numsA .u8 l) l.length true), h) := fun f h l t => bytesClip_c m f h l t
  have kb5 : ∀ (f : FuncId) (h : H) (t : Bool), (evAll TE (m + 1)).1 f (.fn 49 [] []) [.sl [] 0 t] h = some (.ret (.sl [] 0 true), h) := fun f h t => bytesClip_0 m f h t
  have kb6 : ∀ (f : FuncId) (h : H), (evAll TE (m + 1)).1 f (.fn 49 [] []) [.sl0] h = some (.ret .sl0, h) := fun f h => bytesClip_nil m f h
  have ke1 : ∀ (f : FuncId) (h : H) (a : EntryS) (l : List EntryS) (t : Bool), (a :: l).length * 32 ≤ 140737488351232 → (evAll TE (m + 1)).1 f (.fn 52 [] []) [.sl (entriesA (a :: l)) (a :: l).length t] h = some (.ret (.sl (entriesA (a :: l)) (a :: l).length false), h) := fun f h a l t hl => entsClone_c m f h a l t (by omega)
  have ke2 : ∀ (f : FuncId) (h : H) (t : Bool), (evAll TE (m + 1)).1 f (.fn 52 [] []) [.sl [] 0 t] h = some (.ret (.sl [] 0 true), h) := fun f h t => entsClone_0 m f h t
  have ke3 : ∀ (f : FuncId) (h : H), (evAll TE (m + 1)).1 f (.fn 52 [] []) [.sl0] h = some (.ret .sl0, h) := fun f h => entsClone_nil m f h
  have ke4 : ∀ (f : FuncId) (h : H) (l : List EntryS) (t : Bool), (evAll TE (m + 1)).1 f (.fn 51 [] []) [.sl (entriesA l) l.length t] h = some (.ret (.sl (entriesA l) l.length true), h) := fun f h l t => entsClip_c m f h l t
  have ke5 : ∀ (f : FuncId) (h : H) (t : Bool), (evAll TE (m + 1)).1 f (.fn 51 [] []) [.sl [] 0 t] h = some (.ret (.sl [] 0 true), h) := fun f h t => entsClip_0 m f h t
  have ke6 : ∀ (f : FuncId) (h : H), (evAll TE (m + 1)).1 f (.fn 51 [] []) [.sl0] h = some (.ret .sl0, h) := fun f h => entsClip_nil m f h
  have hnl : 0 < ns.length := List.length_pos_iff.2 hlen2
  have hle : (ns.length : Int) ≤ ns.length := Int.le_refl _
  have hle0 : (0 : Int) ≤ ns.length := by omega
  refine call_raw (fn := Try.f30) rfl Try.func30 rfl hraw (Nat.le_of_ble_eq_true rfl) ?_
  conv => whnf
  (refine call_raw (fn := Try.f48) rfl Try.func48 rfl rfl (Nat.le_of_ble_eq_true rfl) ?_)
  conv => whnf
  (refine runK_append_new (sz := 25) (by_ := 144) rfl rfl rfl rfl rfl rfl rfl rfl rfl hnl (nodesA_len ns) (by omega) (by omega) (by decide) rfl ?_)
  conv => whnf
  (refine call_raw (fn := Try.f47) rfl Try.func47 rfl rfl (Nat.le_of_ble_eq_true rfl) ?_)
  conv => whnf
  (refine runK_ret (ev_clipR (sz := 25) rfl rfl rfl rfl rfl) ?_)
  conv => whnf
  refine ⟨ns.length + 1, by show ns.length + 1 ≤ 4611686018427387904; omega, ?_⟩
  refine rounds_at (fun s (a : Int × List NodeS) => ⟨RG.of 38 [(13, .int .i64 a.1), (12, .int .i64 ns.length), (11, .rsl 70 0 ns.length (some ns.length) ((nodesA ns).length + 1)), (2, .ref 68 0 0), (1, .ref 67 0 0)], ⟨s.h.bs.set 70 (.cells (nodesA a.2) ⟨false, 25, true, true⟩), s.h.esc⟩⟩) (fun a => 0 ≤ a.1 ∧ a.1 ≤ ns.length ∧ a.2 = midN ns a.1.toNat) (fun a => (ns.length - a.1).toNat) _ (0, ns) ⟨by simp only; omega, by simp only; omega, (midN_zero ns).symm⟩ (by show ((ns.length : Int) - 0).toNat < ns.length + 1; omega) (by kernel_rfl) ?_
  intro a m' hI ih
  obtain ⟨i, l⟩ := a
  dsimp only at hI ih ⊢
  obtain ⟨hI0, hI1, hI2⟩ := hI
  have hll : l.length = ns.length := by rw [hI2, midN_len]
  have hvv : ((nodesA ns).length + 1) = (nodesA l).length + 1 := by rw [nodesA_len, nodesA_len, hll]
  conv => whnf
  cases h1 : decide (i < (ns.length : Int)) with
  | false =>
    have h1 := of_decide_eq_false h1
    rw [midN_all ns (by omega)] at hI2
    have hLl : (nodesA l).length = ns.length * 25 := by rw [nodesA_len, hll]
    have hcl : cleanL (nodesA l) = true := by
      rw [hI2]
      refine nodesA_clean fun z hz => ?_
      obtain ⟨y, hy, rfl⟩ := List.mem_map.1 hz
      exact ⟨row_clean (bytesC_ok (hok y hy).1.1), ents_clean (entsC_ok (hok y hy).1.2)⟩
    clear ih
    conv => whnf
    (exact hk _ hI2)
  | true =>
    have h1 := of_decide_eq_true h1
    have h3 : i.toNat < ns.length := by omega
    obtain ⟨x, hx⟩ : ∃ x, ns[i.toNat]? = some x := ⟨_, List.getElem?_eq_getElem h3⟩
    have hxl : l[i.toNat]? = some x := by rw [hI2]; exact midN_get hx
    have hw : IntKind.wrap .i64 (i + 1) = i + 1 := wrap64 (by omega) (by omega)
    have hmu : (ns.length - IntKind.wrap .i64 (i + 1)).toNat < (ns.length - i).toNat := by rw [hw]; omega
    have hst : 0 ≤ IntKind.wrap .i64 (i + 1) ∧ IntKind.wrap .i64 (i + 1) ≤ ns.length ∧ l.set i.toNat (cloneN x) = midN ns (IntKind.wrap .i64 (i + 1)).toNat := by
      rw [hw, show (i + 1).toNat = i.toNat + 1 by omega, hI2]
      exact ⟨by omega, by omega, midN_set hx⟩
    have hst2 : ∀ y, 0 ≤ IntKind.wrap .i64 (i + 1) ∧ IntKind.wrap .i64 (i + 1) ≤ ns.length ∧ (l.set i.toNat y).set i.toNat (cloneN x) = midN ns (IntKind.wrap .i64 (i + 1)).toNat := fun y => by
      rw [List.set_set]
      exact hst
    have hget : ∀ y, (l.set i.toNat y)[i.toNat]? = some y := fun y => by rw [List.getElem?_set_self (by omega)]
    have hlen2 : ∀ y, (l.set i.toNat y).length = ns.length := fun y => by rw [List.length_set, hll]
    have hvv2 : ∀ y, ((nodesA ns).length + 1) = (nodesA (l.set i.toNat y)).length + 1 := fun y => by rw [nodesA_len, nodesA_len, hlen2]
    have hf1 : 0 + i.toNat * 25 + 12 + 1 ≤ (nodesA l).length := by rw [nodesA_len]; omega
    have hf2 : ∀ y, 0 + i.toNat * 25 + 22 + 1 ≤ (nodesA (l.set i.toNat y)).length := fun y => by rw [nodesA_len, hlen2]; omega
    have hc1 : 0 + i.toNat * 25 + 25 ≤ (nodesA l).length := by rw [nodesA_len]; omega
    have hd1 : ((nodesA l).drop (0 + i.toNat * 25)).take 25 = nodeA x := by rw [Nat.zero_add]; exact nodesA_node hxl
    obtain ⟨hxo, hxr⟩ := hok x (List.mem_of_getElem? hx)
    have hb1 := hxr.1
    have hb2 := hxr.2
    clear hxr hok hI2
    obtain ⟨kd, ge, mo, us, ng, li, xrs, xrn, xws, xwn, ts, tn, da, by_, vf, ta, ls, es, pa, nx⟩ := x
    obtain ⟨hd3, hd4⟩ := hxo
    dsimp only at hb1 hb2
    unfold nodeA at hd1
    dsimp only at hd1
    rcases bytes_three hd3 with ⟨rfl, rfl⟩ | ⟨dt, rfl, rfl⟩ | ⟨da, dr, dt, rfl, rfl⟩ <;> rcases ents_three hd4 with ⟨rfl, rfl⟩ | ⟨lt, rfl, rfl⟩ | ⟨la, lr, lt, rfl, rfl⟩
    · conv => whnf
      (refine runK_ret (ev_indexRsl (sz := 25) rfl rfl rfl rfl hI0 h1) ?_)
      conv => whnf
      (refine runK_if hvv (runK_cells rfl hc1 hd1 (runK_ret rfl ?_)))
      conv => whnf
      with_reducible refine ⟨_, _, kb3 _ _, ?_⟩
      conv => whnf
      (refine ⟨by kernel_rfl, ?_⟩)
      conv => whnf
      with_reducible refine ⟨_, _, kb6 _ _, ?_⟩
      conv => whnf
      (refine ⟨by kernel_rfl, ?_⟩)
      conv => whnf
      with_reducible refine ⟨_, _, ke3 _ _, ?_⟩
      conv => whnf
      (refine ⟨by kernel_rfl, ?_⟩)
      conv => whnf
      with_reducible refine ⟨_, _, ke6 _ _, ?_⟩
      conv => whnf
      (refine ⟨by kernel_rfl, ?_⟩)
      conv => whnf
      (refine runK_ret (ev_indexRsl (sz := 25) rfl rfl rfl rfl hI0 h1) ?_)
      conv => whnf
      (refine runK_if ⟨hvv, rfl, hf1, .inl rfl⟩ (runK_ret rfl ?_))
      conv => whnf
      (refine listK_of (splice_nodes0 (k := 12) (x' := (⟨kd, ge, mo, us, ng, li, xrs, xrn, xws, xwn, ts, tn, .sl0, [], vf, ta, .sl0, [], pa, nx⟩ : NodeS)) hxl (Nat.le_of_ble_eq_true rfl) rfl) ?_)
      conv => whnf
      (refine runK_ret (ev_indexRsl (sz := 25) rfl rfl rfl rfl hI0 h1) ?_)
      conv => whnf
      (refine runK_if ⟨hvv2 (⟨kd, ge, mo, us, ng, li, xrs, xrn, xws, xwn, ts, tn, .sl0, [], vf, ta, .sl0, [], pa, nx⟩ : NodeS), rfl, hf2 (⟨kd, ge, mo, us, ng, li, xrs, xrn, xws, xwn, ts, tn, .sl0, [], vf, ta, .sl0, [], pa, nx⟩ : NodeS), .inl rfl⟩ (runK_ret rfl ?_))
      conv => whnf
      (refine listK_of (splice_nodes0 (k := 22) (x' := (⟨kd, ge, mo, us, ng, li, xrs, xrn, xws, xwn, ts, tn, .sl0, [], vf, ta, .sl0, [], pa, nx⟩ : NodeS)) (hget _) (Nat.le_of_ble_eq_true rfl) rfl) ?_)
      conv => whnf
      (refine ⟨by kernel_rfl, ?_⟩)
      conv => whnf
      (exact ih (IntKind.wrap .i64 (i + 1), _) _ (hst2 (⟨kd, ge, mo, us, ng, li, xrs, xrn, xws, xwn, ts, tn, .sl0, [], vf, ta, .sl0, [], pa, nx⟩ : NodeS)) hmu (by kernel_rfl))
    · conv => whnf
      (refine runK_ret (ev_indexRsl (sz := 25) rfl rfl rfl rfl hI0 h1) ?_)
      conv => whnf
      (refine runK_if hvv (runK_cells rfl hc1 hd1 (runK_ret rfl ?_)))
      conv => whnf
      with_reducible refine ⟨_, _, kb3 _ _, ?_⟩
      conv => whnf
      (refine ⟨by kernel_rfl, ?_⟩)
      conv => whnf
      with_reducible refine ⟨_, _, kb6 _ _, ?_⟩
      conv => whnf
      (refine ⟨by kernel_rfl, ?_⟩)
      conv => whnf
      with_reducible refine ⟨_, _, ke2 _ _ _, ?_⟩
      conv => whnf
      (refine ⟨by kernel_rfl, ?_⟩)
      conv => whnf
      with_reducible refine ⟨_, _, ke5 _ _ _, ?_⟩
      conv => whnf
      (refine ⟨by kernel_rfl, ?_⟩)
      conv => whnf
      (refine runK_ret (ev_indexRsl (sz := 25) rfl rfl rfl rfl hI0 h1) ?_)
      conv => whnf
      (refine runK_if ⟨hvv, rfl, hf1, .inl rfl⟩ (runK_ret rfl ?_))
      conv => whnf
      (refine listK_of (splice_nodes0 (k := 12) (x' := (⟨kd, ge, mo, us, ng, li, xrs, xrn, xws, xwn, ts, tn, .sl0, [], vf, ta, .sl [] 0 lt, [], pa, nx⟩ : NodeS)) hxl (Nat.le_of_ble_eq_true rfl) rfl) ?_)
      conv => whnf
      (refine runK_ret (ev_indexRsl (sz := 25) rfl rfl rfl rfl hI0 h1) ?_)
      conv => whnf
      (refine runK_if ⟨hvv2 (⟨kd, ge, mo, us, ng, li, xrs, xrn, xws, xwn, ts, tn, .sl0, [], vf, ta, .sl [] 0 lt, [], pa, nx⟩ : NodeS), rfl, hf2 (⟨kd, ge, mo, us, ng, li, xrs, xrn, xws, xwn, ts, tn, .sl0, [], vf, ta, .sl [] 0 lt, [], pa, nx⟩ : NodeS), .inl rfl⟩ (runK_ret rfl ?_))
      conv => whnf
      (refine listK_of (splice_nodes0 (k := 22) (x' := (⟨kd, ge, mo, us, ng, li, xrs, xrn, xws, xwn, ts, tn, .sl0, [], vf, ta, .sl [] 0 true, [], pa, nx⟩ : NodeS)) (hget _) (Nat.le_of_ble_eq_true rfl) rfl) ?_)
      conv => whnf
      (refine ⟨by kernel_rfl, ?_⟩)
      conv => whnf
      (exact ih (IntKind.wrap .i64 (i + 1), _) _ (hst2 (⟨kd, ge, mo, us, ng, li, xrs, xrn, xws, xwn, ts, tn, .sl0, [], vf, ta, .sl [] 0 lt, [], pa, nx⟩ : NodeS)) hmu (by kernel_rfl))
    · conv => whnf
      (refine runK_ret (ev_indexRsl (sz := 25) rfl rfl rfl rfl hI0 h1) ?_)
      conv => whnf
      (refine runK_if hvv (runK_cells rfl hc1 hd1 (runK_ret rfl ?_)))
      conv => whnf
      with_reducible refine ⟨_, _, kb3 _ _, ?_⟩
      conv => whnf
      (refine ⟨by kernel_rfl, ?_⟩)
      conv => whnf
      with_reducible refine ⟨_, _, kb6 _ _, ?_⟩
      conv => whnf
      (refine ⟨by kernel_rfl, ?_⟩)
      conv => whnf
      with_reducible refine ⟨_, _, ke1 _ _ _ _ _ hb2, ?_⟩
      conv => whnf
      (refine ⟨by kernel_rfl, ?_⟩)
      conv => whnf
      with_reducible refine ⟨_, _, ke4 _ _ _ _, ?_⟩
      conv => whnf
      (refine ⟨by kernel_rfl, ?_⟩)
      conv => whnf
      (refine runK_ret (ev_indexRsl (sz := 25) rfl rfl rfl rfl hI0 h1) ?_)
      conv => whnf
      (refine runK_if ⟨hvv, rfl, hf1, .inl rfl⟩ (runK_ret rfl ?_))
      conv => whnf
      (refine listK_of (splice_nodes0 (k := 12) (x' := (⟨kd, ge, mo, us, ng, li, xrs, xrn, xws, xwn, ts, tn, .sl0, [], vf, ta, .sl (entriesA (la :: lr)) (la :: lr).length lt, la :: lr, pa, nx⟩ : NodeS)) hxl (Nat.le_of_ble_eq_true rfl) rfl) ?_)
      conv => whnf
      (refine runK_ret (ev_indexRsl (sz := 25) rfl rfl rfl rfl hI0 h1) ?_)
      conv => whnf
      (refine runK_if ⟨hvv2 (⟨kd, ge, mo, us, ng, li, xrs, xrn, xws, xwn, ts, tn, .sl0, [], vf, ta, .sl (entriesA (la :: lr)) (la :: lr).length lt, la :: lr, pa, nx⟩ : NodeS), rfl, hf2 (⟨kd, ge, mo, us, ng, li, xrs, xrn, xws, xwn, ts, tn, .sl0, [], vf, ta, .sl (entriesA (la :: lr)) (la :: lr).length lt, la :: lr, pa, nx⟩ : NodeS), .inl rfl⟩ (runK_ret rfl ?_))
      conv => whnf
      (refine listK_of (splice_nodes0 (k := 22) (x' := (⟨kd, ge, mo, us, ng, li, xrs, xrn, xws, xwn, ts, tn, .sl0, [], vf, ta, .sl (entriesA (la :: lr)) (la :: lr).length true, la :: lr, pa, nx⟩ : NodeS)) (hget _) (Nat.le_of_ble_eq_true rfl) rfl) ?_)
      conv => whnf
      (refine ⟨by kernel_rfl, ?_⟩)
      conv => whnf
      (exact ih (IntKind.wrap .i64 (i + 1), _) _ (hst2 (⟨kd, ge, mo, us, ng, li, xrs, xrn, xws, xwn, ts, tn, .sl0, [], vf, ta, .sl (entriesA (la :: lr)) (la :: lr).length lt, la :: lr, pa, nx⟩ : NodeS)) hmu (by kernel_rfl))
    · conv => whnf
      (refine runK_ret (ev_indexRsl (sz := 25) rfl rfl rfl rfl hI0 h1) ?_)
      conv => whnf
      (refine runK_if hvv (runK_cells rfl hc1 hd1 (runK_ret rfl ?_)))
      conv => whnf
      with_reducible refine ⟨_, _, kb2 _ _ _, ?_⟩
      conv => whnf
      (refine ⟨by kernel_rfl, ?_⟩)
      conv => whnf
      with_reducible refine ⟨_, _, kb5 _ _ _, ?_⟩
      conv => whnf
      (refine ⟨by kernel_rfl, ?_⟩)
      conv => whnf
      with_reducible refine ⟨_, _, ke3 _ _, ?_⟩
      conv => whnf
      (refine ⟨by kernel_rfl, ?_⟩)
      conv => whnf
      with_reducible refine ⟨_, _, ke6 _ _, ?_⟩
      conv => whnf
      (refine ⟨by kernel_rfl, ?_⟩)
      conv => whnf
      (refine runK_ret (ev_indexRsl (sz := 25) rfl rfl rfl rfl hI0 h1) ?_)
      conv => whnf
      (refine runK_if ⟨hvv, rfl, hf1, .inl rfl⟩ (runK_ret rfl ?_))
      conv => whnf
      (refine listK_of (splice_nodes0 (k := 12) (x' := (⟨kd, ge, mo, us, ng, li, xrs, xrn, xws, xwn, ts, tn, .sl [] 0 true, [], vf, ta, .sl0, [], pa, nx⟩ : NodeS)) hxl (Nat.le_of_ble_eq_true rfl) rfl) ?_)
      conv => whnf
      (refine runK_ret (ev_indexRsl (sz := 25) rfl rfl rfl rfl hI0 h1) ?_)
      conv => whnf
      (refine runK_if ⟨hvv2 (⟨kd, ge, mo, us, ng, li, xrs, xrn, xws, xwn, ts, tn, .sl [] 0 true, [], vf, ta, .sl0, [], pa, nx⟩ : NodeS), rfl, hf2 (⟨kd, ge, mo, us, ng, li, xrs, xrn, xws, xwn, ts, tn, .sl [] 0 true, [], vf, ta, .sl0, [], pa, nx⟩ : NodeS), .inl rfl⟩ (runK_ret rfl ?_))
      conv => whnf
      (refine listK_of (splice_nodes0 (k := 22) (x' := (⟨kd, ge, mo, us, ng, li, xrs, xrn, xws, xwn, ts, tn, .sl [] 0 true, [], vf, ta, .sl0, [], pa, nx⟩ : NodeS)) (hget _) (Nat.le_of_ble_eq_true rfl) rfl) ?_)
      conv => whnf
      (refine ⟨by kernel_rfl, ?_⟩)
      conv => whnf
      (exact ih (IntKind.wrap .i64 (i + 1), _) _ (hst2 (⟨kd, ge, mo, us, ng, li, xrs, xrn, xws, xwn, ts, tn, .sl [] 0 true, [], vf, ta, .sl0, [], pa, nx⟩ : NodeS)) hmu (by kernel_rfl))
    · conv => whnf
      (refine runK_ret (ev_indexRsl (sz := 25) rfl rfl rfl rfl hI0 h1) ?_)
      conv => whnf
      (refine runK_if hvv (runK_cells rfl hc1 hd1 (runK_ret rfl ?_)))
      conv => whnf
      with_reducible refine ⟨_, _, kb2 _ _ _, ?_⟩
      conv => whnf
      (refine ⟨by kernel_rfl, ?_⟩)
      conv => whnf
      with_reducible refine ⟨_, _, kb5 _ _ _, ?_⟩
      conv => whnf
      (refine ⟨by kernel_rfl, ?_⟩)
      conv => whnf
      with_reducible refine ⟨_, _, ke2 _ _ _, ?_⟩
      conv => whnf
      (refine ⟨by kernel_rfl, ?_⟩)
      conv => whnf
      with_reducible refine ⟨_, _, ke5 _ _ _, ?_⟩
      conv => whnf
      (refine ⟨by kernel_rfl, ?_⟩)
      conv => whnf
      (refine runK_ret (ev_indexRsl (sz := 25) rfl rfl rfl rfl hI0 h1) ?_)
      conv => whnf
      (refine runK_if ⟨hvv, rfl, hf1, .inl rfl⟩ (runK_ret rfl ?_))
      conv => whnf
      (refine listK_of (splice_nodes0 (k := 12) (x' := (⟨kd, ge, mo, us, ng, li, xrs, xrn, xws, xwn, ts, tn, .sl [] 0 true, [], vf, ta, .sl [] 0 lt, [], pa, nx⟩ : NodeS)) hxl (Nat.le_of_ble_eq_true rfl) rfl) ?_)
      conv => whnf
      (refine runK_ret (ev_indexRsl (sz := 25) rfl rfl rfl rfl hI0 h1) ?_)
      conv => whnf
      (refine runK_if ⟨hvv2 (⟨kd, ge, mo, us, ng, li, xrs, xrn, xws, xwn, ts, tn, .sl [] 0 true, [], vf, ta, .sl [] 0 lt, [], pa, nx⟩ : NodeS), rfl, hf2 (⟨kd, ge, mo, us, ng, li, xrs, xrn, xws, xwn, ts, tn, .sl [] 0 true, [], vf, ta, .sl [] 0 lt, [], pa, nx⟩ : NodeS), .inl rfl⟩ (runK_ret rfl ?_))
      conv => whnf
      (refine listK_of (splice_nodes0 (k := 22) (x' := (⟨kd, ge, mo, us, ng, li, xrs, xrn, xws, xwn, ts, tn, .sl [] 0 true, [], vf, ta, .sl [] 0 true, [], pa, nx⟩ : NodeS)) (hget _) (Nat.le_of_ble_eq_true rfl) rfl) ?_)
      conv => whnf
      (refine ⟨by kernel_rfl, ?_⟩)
      conv => whnf
      (exact ih (IntKind.wrap .i64 (i + 1), _) _ (hst2 (⟨kd, ge, mo, us, ng, li, xrs, xrn, xws, xwn, ts, tn, .sl [] 0 true, [], vf, ta, .sl [] 0 lt, [], pa, nx⟩ : NodeS)) hmu (by kernel_rfl))
    · conv => whnf
      (refine runK_ret (ev_indexRsl (sz := 25) rfl rfl rfl rfl hI0 h1) ?_)
      conv => whnf
      (refine runK_if hvv (runK_cells rfl hc1 hd1 (runK_ret rfl ?_)))
      conv => whnf
      with_reducible refine ⟨_, _, kb2 _ _ _, ?_⟩
      conv => whnf
      (refine ⟨by kernel_rfl, ?_⟩)
      conv => whnf
      with_reducible refine ⟨_, _, kb5 _ _ _, ?_⟩
      conv => whnf
      (refine ⟨by kernel_rfl, ?_⟩)
      conv => whnf
      with_reducible refine ⟨_, _, ke1 _ _ _ _ _ hb2, ?_⟩
      conv => whnf
      (refine ⟨by kernel_rfl, ?_⟩)
      conv => whnf
      with_reducible refine ⟨_, _, ke4 _ _ _ _, ?_⟩
      conv => whnf
      (refine ⟨by kernel_rfl, ?_⟩)
      conv => whnf
      (refine runK_ret (ev_indexRsl (sz := 25) rfl rfl rfl rfl hI0 h1) ?_)
      conv => whnf
      (refine runK_if ⟨hvv, rfl, hf1, .inl rfl⟩ (runK_ret rfl ?_))
      conv => whnf
      (refine listK_of (splice_nodes0 (k := 12) (x' := (⟨kd, ge, mo, us, ng, li, xrs, xrn, xws, xwn, ts, tn, .sl [] 0 true, [], vf, ta, .sl (entriesA (la :: lr)) (la :: lr).length lt, la :: lr, pa, nx⟩ : NodeS)) hxl (Nat.le_of_ble_eq_true rfl) rfl) ?_)
      conv => whnf
      (refine runK_ret (ev_indexRsl (sz := 25) rfl rfl rfl rfl hI0 h1) ?_)
      conv => whnf
      (refine runK_if ⟨hvv2 (⟨kd, ge, mo, us, ng, li, xrs, xrn, xws, xwn, ts, tn, .sl [] 0 true, [], vf, ta, .sl (entriesA (la :: lr)) (la :: lr).length lt, la :: lr, pa, nx⟩ : NodeS), rfl, hf2 (⟨kd, ge, mo, us, ng, li, xrs, xrn, xws, xwn, ts, tn, .sl [] 0 true, [], vf, ta, .sl (entriesA (la :: lr)) (la :: lr).length lt, la :: lr, pa, nx⟩ : NodeS), .inl rfl⟩ (runK_ret rfl ?_))
      conv => whnf
      (refine listK_of (splice_nodes0 (k := 22) (x' := (⟨kd, ge, mo, us, ng, li, xrs, xrn, xws, xwn, ts, tn, .sl [] 0 true, [], vf, ta, .sl (entriesA (la :: lr)) (la :: lr).length true, la :: lr, pa, nx⟩ : NodeS)) (hget _) (Nat.le_of_ble_eq_true rfl) rfl) ?_)
      conv => whnf
      (refine ⟨by kernel_rfl, ?_⟩)
      conv => whnf
      (exact ih (IntKind.wrap .i64 (i + 1), _) _ (hst2 (⟨kd, ge, mo, us, ng, li, xrs, xrn, xws, xwn, ts, tn, .sl [] 0 true, [], vf, ta, .sl (entriesA (la :: lr)) (la :: lr).length lt, la :: lr, pa, nx⟩ : NodeS)) hmu (by kernel_rfl))
    · conv => whnf
      (refine runK_ret (ev_indexRsl (sz := 25) rfl rfl rfl rfl hI0 h1) ?_)
      conv => whnf
      (refine runK_if hvv (runK_cells rfl hc1 hd1 (runK_ret rfl ?_)))
      conv => whnf
      with_reducible refine ⟨_, _, kb1 _ _ _ _ _ hb1, ?_⟩
      conv => whnf
      (refine ⟨by kernel_rfl, ?_⟩)
      conv => whnf
      with_reducible refine ⟨_, _, kb4 _ _ _ _, ?_⟩
      conv => whnf
      (refine ⟨by kernel_rfl, ?_⟩)
      conv => whnf
      with_reducible refine ⟨_, _, ke3 _ _, ?_⟩
      conv => whnf
      (refine ⟨by kernel_rfl, ?_⟩)
      conv => whnf
      with_reducible refine ⟨_, _, ke6 _ _, ?_⟩
      conv => whnf
      (refine ⟨by kernel_rfl, ?_⟩)
      conv => whnf
      (refine runK_ret (ev_indexRsl (sz := 25) rfl rfl rfl rfl hI0 h1) ?_)
      conv => whnf
      (refine runK_if ⟨hvv, rfl, hf1, .inl rfl⟩ (runK_ret rfl ?_))
      conv => whnf
      (refine listK_of (splice_nodes0 (k := 12) (x' := (⟨kd, ge, mo, us, ng, li, xrs, xrn, xws, xwn, ts, tn, .sl (numsA .u8 (da :: dr)) (da :: dr).length true, da :: dr, vf, ta, .sl0, [], pa, nx⟩ : NodeS)) hxl (Nat.le_of_ble_eq_true rfl) rfl) ?_)
      conv => whnf
      (refine runK_ret (ev_indexRsl (sz := 25) rfl rfl rfl rfl hI0 h1) ?_)
      conv => whnf
      (refine runK_if ⟨hvv2 (⟨kd, ge, mo, us, ng, li, xrs, xrn, xws, xwn, ts, tn, .sl (numsA .u8 (da :: dr)) (da :: dr).length true, da :: dr, vf, ta, .sl0, [], pa, nx⟩ : NodeS), rfl, hf2 (⟨kd, ge, mo, us, ng, li, xrs, xrn, xws, xwn, ts, tn, .sl (numsA .u8 (da :: dr)) (da :: dr).length true, da :: dr, vf, ta, .sl0, [], pa, nx⟩ : NodeS), .inl rfl⟩ (runK_ret rfl ?_))
      conv => whnf
      (refine listK_of (splice_nodes0 (k := 22) (x' := (⟨kd, ge, mo, us, ng, li, xrs, xrn, xws, xwn, ts, tn, .sl (numsA .u8 (da :: dr)) (da :: dr).length true, da :: dr, vf, ta, .sl0, [], pa, nx⟩ : NodeS)) (hget _) (Nat.le_of_ble_eq_true rfl) rfl) ?_)
      conv => whnf
      (refine ⟨by kernel_rfl, ?_⟩)
      conv => whnf
      (exact ih (IntKind.wrap .i64 (i + 1), _) _ (hst2 (⟨kd, ge, mo, us, ng, li, xrs, xrn, xws, xwn, ts, tn, .sl (numsA .u8 (da :: dr)) (da :: dr).length true, da :: dr, vf, ta, .sl0, [], pa, nx⟩ : NodeS)) hmu (by kernel_rfl))
    · conv => whnf
      (refine runK_ret (ev_indexRsl (sz := 25) rfl rfl rfl rfl hI0 h1) ?_)
      conv => whnf
      (refine runK_if hvv (runK_cells rfl hc1 hd1 (runK_ret rfl ?_)))
      conv => whnf
      with_reducible refine ⟨_, _, kb1 _ _ _ _ _ hb1, ?_⟩
      conv => whnf
      (refine ⟨by kernel_rfl, ?_⟩)
      conv => whnf
      with_reducible refine ⟨_, _, kb4 _ _ _ _, ?_⟩
      conv => whnf
      (refine ⟨by kernel_rfl, ?_⟩)
      conv => whnf
      with_reducible refine ⟨_, _, ke2 _ _ _, ?_⟩
      conv => whnf
      (refine ⟨by kernel_rfl, ?_⟩)
      conv => whnf
      with_reducible refine ⟨_, _, ke5 _ _ _, ?_⟩
      conv => whnf
      (refine ⟨by kernel_rfl, ?_⟩)
      conv => whnf
      (refine runK_ret (ev_indexRsl (sz := 25) rfl rfl rfl rfl hI0 h1) ?_)
      conv => whnf
      (refine runK_if ⟨hvv, rfl, hf1, .inl rfl⟩ (runK_ret rfl ?_))
      conv => whnf
      (refine listK_of (splice_nodes0 (k := 12) (x' := (⟨kd, ge, mo, us, ng, li, xrs, xrn, xws, xwn, ts, tn, .sl (numsA .u8 (da :: dr)) (da :: dr).length true, da :: dr, vf, ta, .sl [] 0 lt, [], pa, nx⟩ : NodeS)) hxl (Nat.le_of_ble_eq_true rfl) rfl) ?_)
      conv => whnf
      (refine runK_ret (ev_indexRsl (sz := 25) rfl rfl rfl rfl hI0 h1) ?_)
      conv => whnf
      (refine runK_if ⟨hvv2 (⟨kd, ge, mo, us, ng, li, xrs, xrn, xws, xwn, ts, tn, .sl (numsA .u8 (da :: dr)) (da :: dr).length true, da :: dr, vf, ta, .sl [] 0 lt, [], pa, nx⟩ : NodeS), rfl, hf2 (⟨kd, ge, mo, us, ng, li, xrs, xrn, xws, xwn, ts, tn, .sl (numsA .u8 (da :: dr)) (da :: dr).length true, da :: dr, vf, ta, .sl [] 0 lt, [], pa, nx⟩ : NodeS), .inl rfl⟩ (runK_ret rfl ?_))
      conv => whnf
      (refine listK_of (splice_nodes0 (k := 22) (x' := (⟨kd, ge, mo, us, ng, li, xrs, xrn, xws, xwn, ts, tn, .sl (numsA .u8 (da :: dr)) (da :: dr).length true, da :: dr, vf, ta, .sl [] 0 true, [], pa, nx⟩ : NodeS)) (hget _) (Nat.le_of_ble_eq_true rfl) rfl) ?_)
      conv => whnf
      (refine ⟨by kernel_rfl, ?_⟩)
      conv => whnf
      (exact ih (IntKind.wrap .i64 (i + 1), _) _ (hst2 (⟨kd, ge, mo, us, ng, li, xrs, xrn, xws, xwn, ts, tn, .sl (numsA .u8 (da :: dr)) (da :: dr).length true, da :: dr, vf, ta, .sl [] 0 lt, [], pa, nx⟩ : NodeS)) hmu (by kernel_rfl))
    · conv => whnf
      (refine runK_ret (ev_indexRsl (sz := 25) rfl rfl rfl rfl hI0 h1) ?_)
      conv => whnf
      (refine runK_if hvv (runK_cells rfl hc1 hd1 (runK_ret rfl ?_)))
      conv => whnf
      with_reducible refine ⟨_, _, kb1 _ _ _ _ _ hb1, ?_⟩
      conv => whnf
      (refine ⟨by kernel_rfl, ?_⟩)
      conv => whnf
      with_reducible refine ⟨_, _, kb4 _ _ _ _, ?_⟩
      conv => whnf
      (refine ⟨by kernel_rfl, ?_⟩)
      conv => whnf
      with_reducible refine ⟨_, _, ke1 _ _ _ _ _ hb2, ?_⟩
      conv => whnf
      (refine ⟨by kernel_rfl, ?_⟩)
      conv => whnf
      with_reducible refine ⟨_, _, ke4 _ _ _ _, ?_⟩
      conv => whnf
      (refine ⟨by kernel_rfl, ?_⟩)
      conv => whnf
      (refine runK_ret (ev_indexRsl (sz := 25) rfl rfl rfl rfl hI0 h1) ?_)
      conv => whnf
      (refine runK_if ⟨hvv, rfl, hf1, .inl rfl⟩ (runK_ret rfl ?_))
      conv => whnf
      (refine listK_of (splice_nodes0 (k := 12) (x' := (⟨kd, ge, mo, us, ng, li, xrs, xrn, xws, xwn, ts, tn, .sl (numsA .u8 (da :: dr)) (da :: dr).length true, da :: dr, vf, ta, .sl (entriesA (la :: lr)) (la :: lr).length lt, la :: lr, pa, nx⟩ : NodeS)) hxl (Nat.le_of_ble_eq_true rfl) rfl) ?_)
      conv => whnf
      (refine runK_ret (ev_indexRsl (sz := 25) rfl rfl rfl rfl hI0 h1) ?_)
      conv => whnf
      (refine runK_if ⟨hvv2 (⟨kd, ge, mo, us, ng, li, xrs, xrn, xws, xwn, ts, tn, .sl (numsA .u8 (da :: dr)) (da :: dr).length true, da :: dr, vf, ta, .sl (entriesA (la :: lr)) (la :: lr).length lt, la :: lr, pa, nx⟩ : NodeS), rfl, hf2 (⟨kd, ge, mo, us, ng, li, xrs, xrn, xws, xwn, ts, tn, .sl (numsA .u8 (da :: dr)) (da :: dr).length true, da :: dr, vf, ta, .sl (entriesA (la :: lr)) (la :: lr).length lt, la :: lr, pa, nx⟩ : NodeS), .inl rfl⟩ (runK_ret rfl ?_))
      conv => whnf
      (refine listK_of (splice_nodes0 (k := 22) (x' := (⟨kd, ge, mo, us, ng, li, xrs, xrn, xws, xwn, ts, tn, .sl (numsA .u8 (da :: dr)) (da :: dr).length true, da :: dr, vf, ta, .sl (entriesA (la :: lr)) (la :: lr).length true, la :: lr, pa, nx⟩ : NodeS)) (hget _) (Nat.le_of_ble_eq_true rfl) rfl) ?_)
      conv => whnf
      (refine ⟨by kernel_rfl, ?_⟩)
      conv => whnf
      (exact ih (IntKind.wrap .i64 (i + 1), _) _ (hst2 (⟨kd, ge, mo, us, ng, li, xrs, xrn, xws, xwn, ts, tn, .sl (numsA .u8 (da :: dr)) (da :: dr).length true, da :: dr, vf, ta, .sl (entriesA (la :: lr)) (la :: lr).length lt, la :: lr, pa, nx⟩ : NodeS)) hmu (by kernel_rfl))
theorem lend_tree2 {bs : List AB} {b n ver : Nat} {cap : Option Nat} {l : List NodeS} {i : BI} {g : Int} {k : Int} (hb : bs[b]? = some (.cells (nodesA l) i)) (hv : ver = verA i (nodesA l).length) (hc : ∀ x ∈ l, x.ok) (hl : l.length = n) (hz : i.sz = 25) : lendL 4 bs [.agg [.rsl b 0 n cap ver, .int .u32 g], .int .i64 k] = [.agg [.sl (nodesA l) n (tightA cap n), .int .u32 g], .int .i64 k] := by
  show [AV.agg [lendV (lendL 3 bs) bs (.rsl b 0 n cap ver), .int .u32 g], .int .i64 k] = _
  rw [lendV_row hb hv (nodesA_clean fun x hx => ⟨row_clean (hc x hx).1, ents_clean (hc x hx).2⟩) (by rw [nodesA_len, hz, hl]) (by rw [hz]; decide)]
set_option maxHeartbeats 16000000 in
theorem look_read (m : Nat) (from_ : FuncId) (h : H) (ns : List NodeS) (t : Bool) (gen : Int) (c : CredS) (hc : c.ok) (a : ArgsS) (ha : a.ok) (ss sn : Int) (bo : Nat → Int) (hok : ∀ x ∈ ns, x.fit) (hlen : ns.length ≤ 1025) (hlen2 : ns ≠ []) (hK : ∀ (f : FuncId) (h : H), evCall TE (m + 29) f (.fn 7 [] []) [.agg [.sl (nodesA ns) ns.length t, .int .u32 gen]] h = some (.ret (.bool true), h)) (hp : a.proc = 6) (hno : nanoOk sn = true) (n : Int) (x : NodeS) (hn : thereS ns n = true) (hx : ns[n.toNat]? = some x) (hF : ∀ (f : FuncId) (h : H), evCall TE (m + 29) f (.fn 10 [] []) [.agg [.sl (nodesA ns) ns.length t, .int .u32 gen], a.h] h = some (.ret (.tup [.int .i64 n, .int .u32 0]), h)) (tt : Bool) (hsl : a.h = .sl (numsA .u8 a.hl) a.hl.length tt) (hk : (x.kind == 2) = false) (hk5 : (x.kind == 5) = false) (hmay : mayX x c 4 = true) (td : Bool) (hda : x.data = .sl (numsA .u8 x.bytes) x.bytes.length td) (rest : List Int) (hJ0 : 0 ≤ (if IntKind.wrap .u64 (x.bytes.length : Int) < a.offset then IntKind.wrap .u64 (x.bytes.length : Int) else a.offset)) (hJ1 : (if IntKind.wrap .u64 (x.bytes.length : Int) < a.offset then IntKind.wrap .u64 (x.bytes.length : Int) else a.offset) ≤ x.bytes.length) (hrest : rest = x.bytes.drop (if IntKind.wrap .u64 (x.bytes.length : Int) < a.offset then IntKind.wrap .u64 (x.bytes.length : Int) else a.offset).toNat) (hM0 : 0 ≤ (if (32768 : Int) < (if IntKind.wrap .u64 a.count < IntKind.wrap .u64 (rest.length : Int) then IntKind.wrap .u64 a.count else IntKind.wrap .u64 (rest.length : Int)) then 32768 else (if IntKind.wrap .u64 a.count < IntKind.wrap .u64 (rest.length : Int) then IntKind.wrap .u64 a.count else IntKind.wrap .u64 (rest.length : Int)))) (hM1 : (if (32768 : Int) < (if IntKind.wrap .u64 a.count < IntKind.wrap .u64 (rest.length : Int) then IntKind.wrap .u64 a.count else IntKind.wrap .u64 (rest.length : Int)) then 32768 else (if IntKind.wrap .u64 a.count < IntKind.wrap .u64 (rest.length : Int) then IntKind.wrap .u64 a.count else IntKind.wrap .u64 (rest.length : Int))) ≤ rest.length) (da0 : Int) (dr : List Int) (hD : rest.take (if (32768 : Int) < (if IntKind.wrap .u64 a.count < IntKind.wrap .u64 (rest.length : Int) then IntKind.wrap .u64 a.count else IntKind.wrap .u64 (rest.length : Int)) then 32768 else (if IntKind.wrap .u64 a.count < IntKind.wrap .u64 (rest.length : Int) then IntKind.wrap .u64 a.count else IntKind.wrap .u64 (rest.length : Int))).toNat = da0 :: dr) (hDl : dr.length ≤ 40000) : evCall TE (m + 30) from_ (.fn 9 [] []) [.agg [.sl (nodesA ns) ns.length t, .int .u32 gen], .agg (credL c), .agg (argL a), .agg (worldL ss sn bo)] h = some (.ret (.tup [.agg [.sl (nodesA (((ns.map cloneN).map cloneN).set n.toNat ({ cloneN (cloneN x) with rs := ss, rn := sn } : NodeS))) ns.length true, .int .u32 gen], .agg (ansA a.proc { stat := 0, ha := true, at_ := attrsS { x with rs := ss, rn := sn } n, count := IntKind.wrap .u32 (if (32768 : Int) < (if IntKind.wrap .u64 a.count < IntKind.wrap .u64 (rest.length : Int) then IntKind.wrap .u64 a.count else IntKind.wrap .u64 (rest.length : Int)) then 32768 else (if IntKind.wrap .u64 a.count < IntKind.wrap .u64 (rest.length : Int) then IntKind.wrap .u64 a.count else IntKind.wrap .u64 (rest.length : Int))), en := (if (32768 : Int) < (if IntKind.wrap .u64 a.count < IntKind.wrap .u64 (rest.length : Int) then IntKind.wrap .u64 a.count else IntKind.wrap .u64 (rest.length : Int)) then 32768 else (if IntKind.wrap .u64 a.count < IntKind.wrap .u64 (rest.length : Int) then IntKind.wrap .u64 a.count else IntKind.wrap .u64 (rest.length : Int))) == IntKind.wrap .u64 (rest.length : Int), data := .sl (numsA .u8 (da0 :: dr)) (da0 :: dr).length true })]), h) := by
  have cT : ∀ (h : H), (evAll TE (m + 29)).1 9 (.fn 30 [] []) [.agg [.sl (nodesA ns) ns.length t, .int .u32 gen]] h = some (.ret (.agg [.sl (nodesA (ns.map cloneN)) ns.length true, .int .u32 gen]), h) := fun h => twinL_c (m + 27) h ns t gen hok hlen hlen2
  have cD : ∀ (f : FuncId) (h : H), (evAll TE (m + 29)).1 f (.fn 32 [] []) [.int .u32 a.proc] h = some (.ret (.bool (doesS a.proc)), h) := fun f h => does_c (m + 27) f h a.proc
  have cK : ∀ (f : FuncId) (h : H), (evAll TE (m + 29)).1 f (.fn 7 [] []) [.agg [.sl (nodesA ns) ns.length t, .int .u32 gen]] h = some (.ret (.bool true), h) := hK
  have cN : ∀ (f : FuncId) (h : H), (evAll TE (m + 29)).1 f (.fn 26 [] []) [.agg [.int .u32 ss, .int .u32 sn]] h = some (.ret (.bool (nanoOk sn)), h) := fun f h => times_c (m + 28) f h ss sn
  have hone1 := cred_one hc
  have hone2 := args_one ha
  have hone3 := work_one (ns := ns) (gen := gen) (ss := ss) (sn := sn) (bo := bo) hc ha
  have htop3 := work_top (ns := ns) (gen := gen) (ss := ss) (sn := sn) (bo := bo) hc ha
  clear hK
  have hcl : cleanL [.agg [.sl (nodesA ns) ns.length t, .int .u32 gen], .agg (credL c), .agg (argL a), .agg (worldL ss sn bo)] = true := by
    have h1 := row_clean hc.1
    have h2 := row_clean ha.h
    have h3 := row_clean ha.h2
    have h4 := row_clean ha.data
    simp [cleanL, AV.clean, credL, argL, worldL, h1, h2, h3, h4]
  have cF : ∀ (f : FuncId) (h : H), (evAll TE (m + 29)).1 f (.fn 10 [] []) [.agg [.sl (nodesA ns) ns.length t, .int .u32 gen], a.h] h = some (.ret (.tup [.int .i64 n, .int .u32 0]), h) := hF
  have hd : doesS a.proc = true := by rw [hp]; rfl
  have hm : thereS (ns.map cloneN) n = true := by rw [thereS_clone]; exact hn
  have hmx : (ns.map cloneN)[n.toNat]? = some (cloneN x) := by rw [List.getElem?_map, hx]; rfl
  have hml : (ns.map cloneN).length = ns.length := List.length_map ..
  have hxf := hok x (List.mem_of_getElem? hx)
  have hmo : (cloneN x).ok := ⟨bytesC_ok hxf.1.1, entsC_ok hxf.1.2⟩
  have hmv : nodesOk (.sl (nodesA (ns.map cloneN)) ns.length true) (ns.map cloneN) := .inr ⟨true, by rw [hml]⟩
  obtain ⟨hn1, hn2, _⟩ := there_facts hn
  have hn0 : 0 ≤ n := by omega
  have cA : ∀ (k : Nat) (f : FuncId) (h : H), (evAll TE (k + 2)).1 f (.fn 37 [] []) [.agg [.sl (nodesA (ns.map cloneN)) ns.length true, .int .u32 gen], .int .i64 n] h = some (.ret (.tup [.agg (attrsS x n), .bool true]), h) := fun k f h => attrs_some k f h _ _ hmv gen n (cloneN x) hm hmx hmo
  clear hF
  have hdA : (nodeA (cloneN x))[12]? = some (.sl (numsA .u8 x.bytes) x.bytes.length true) := by
    show some (cloneN x).data = _
    unfold cloneN
    dsimp only
    rw [hda]
    rfl
  have hs1 : ∀ {nid : Nat} {ρ : Operand → AV} {o lo : Operand}, ρ o = .sl (numsA .u8 x.bytes) x.bytes.length true → ρ lo = .int .u64 (if IntKind.wrap .u64 (x.bytes.length : Int) < a.offset then IntKind.wrap .u64 (x.bytes.length : Int) else a.offset) → evOp TE.P TE.flat nid (.slice 30 o (some lo) none none) ρ = .ret (.sl (numsA .u8 rest) rest.length true, .none) := fun ho hlo => by
    rw [ev_sliceFrom (sz := 1) rfl rfl ho hlo hJ0 hJ1 (by simp [numsA]), Nat.mul_one, numsA_drop, ← hrest, hrest, List.length_drop]
  have hs2 : ∀ {nid : Nat} {ρ : Operand → AV} {o hi : Operand}, ρ o = .sl (numsA .u8 rest) rest.length true → ρ hi = .int .u64 (if (32768 : Int) < (if IntKind.wrap .u64 a.count < IntKind.wrap .u64 (rest.length : Int) then IntKind.wrap .u64 a.count else IntKind.wrap .u64 (rest.length : Int)) then 32768 else (if IntKind.wrap .u64 a.count < IntKind.wrap .u64 (rest.length : Int) then IntKind.wrap .u64 a.count else IntKind.wrap .u64 (rest.length : Int))) → evOp TE.P TE.flat nid (.slice 30 o none (some hi) none) ρ = .ret (.sl (numsA .u8 (da0 :: dr)) (da0 :: dr).length (true && decide ((if (32768 : Int) < (if IntKind.wrap .u64 a.count < IntKind.wrap .u64 (rest.length : Int) then IntKind.wrap .u64 a.count else IntKind.wrap .u64 (rest.length : Int)) then 32768 else (if IntKind.wrap .u64 a.count < IntKind.wrap .u64 (rest.length : Int) then IntKind.wrap .u64 a.count else IntKind.wrap .u64 (rest.length : Int))).toNat = rest.length)), .none) := fun ho hhi => by
    rw [ev_sliceTo (sz := 1) rfl rfl ho hhi hM0 hM1 (by simp [numsA]; omega), Nat.mul_one, numsA_take, hD, ← hD, List.length_take, Nat.min_eq_left (by omega)]
  have kb1 : ∀ (k : Nat) (f : FuncId) (h : H) (t : Bool), (evAll TE (k + 1)).1 f (.fn 50 [] []) [.sl (numsA .u8 (da0 :: dr)) (da0 :: dr).length t] h = some (.ret (.sl (numsA .u8 (da0 :: dr)) (da0 :: dr).length false), h) := fun k f h t => bytesClone_c k f h da0 dr t (by simp; omega)
  have kb4 : ∀ (k : Nat) (f : FuncId) (h : H) (t : Bool), (evAll TE (k + 1)).1 f (.fn 49 [] []) [.sl (numsA .u8 (da0 :: dr)) (da0 :: dr).length t] h = some (.ret (.sl (numsA .u8 (da0 :: dr)) (da0 :: dr).length true), h) := fun k f h t => bytesClip_c k f h (da0 :: dr) t
  have cM : ∀ (k : Nat) (f : FuncId) (h : H), (evAll TE (k + 4)).1 f (.fn 15 [] []) [.agg [.sl (nodesA (ns.map cloneN)) ns.length true, .int .u32 gen], .int .i64 n, credA c, .int .u32 4] h = some (.ret (.bool (mayX x c 4)), h) := fun k f h => may_some k f h _ _ hmv gen n c 4 hc (cloneN x) hm hmx hmo
  obtain ⟨my, hmy⟩ : ∃ b, b = mayX x c 4 := ⟨_, rfl⟩
  rw [← hmy] at cM hmay
  have cW : ∀ (K : AV → H → Prop) (KK : Nat), True := fun _ _ => trivial
  clear cW
  have hok2 : ∀ y ∈ ns.map cloneN, y.fit := fun y hy => by
    obtain ⟨z, hz, rfl⟩ := List.mem_map.1 hy
    exact ⟨⟨bytesC_ok (hok z hz).1.1, entsC_ok (hok z hz).1.2⟩, (hok z hz).2⟩
  have hne2 : ns.map cloneN ≠ [] := fun h => hlen2 (List.map_eq_nil_iff.1 h)
  have hzx : ((ns.map cloneN).map cloneN)[n.toNat]? = some (cloneN (cloneN x)) := by rw [List.getElem?_map, hmx]; rfl
  have hzl : ((ns.map cloneN).map cloneN).length = ns.length := by rw [List.length_map, hml]
  have hzo : ((cloneN (cloneN x))).ok := ⟨bytesC_ok hmo.1, entsC_ok hmo.2⟩
  obtain ⟨L, hL⟩ : ∃ L, L = ((ns.map cloneN).map cloneN) := ⟨_, rfl⟩
  rw [← hL]
  have hLx : L[n.toNat]? = some (cloneN (cloneN x)) := by rw [hL]; exact hzx
  have hLl : L.length = ns.length := by rw [hL]; exact hzl
  have hLok : ∀ y ∈ L.set n.toNat ({ cloneN (cloneN x) with rs := ss, rn := sn } : NodeS), y.ok := by
    intro y hy
    rcases List.mem_or_eq_of_mem_set hy with hy | rfl
    · rw [hL] at hy
      obtain ⟨z, hz, rfl⟩ := List.mem_map.1 hy
      exact ⟨bytesC_ok (hok2 z hz).1.1, entsC_ok (hok2 z hz).1.2⟩
    · exact hzo
  have hXk : thereS (L.set n.toNat ({ cloneN (cloneN x) with rs := ss, rn := sn } : NodeS)) n = true := by
    have h1 : thereS ((ns.map cloneN).map cloneN) n = true := by rw [thereS_clone]; exact hm
    rw [← hL] at h1
    unfold thereS kindS at h1 ⊢
    rw [List.length_set, List.getElem?_set_self (by omega)]
    rw [hLx] at h1
    exact h1
  have hXx : (L.set n.toNat ({ cloneN (cloneN x) with rs := ss, rn := sn } : NodeS))[n.toNat]? = some ({ cloneN (cloneN x) with rs := ss, rn := sn } : NodeS) := List.getElem?_set_self (by omega)
  have hXl : (L.set n.toNat ({ cloneN (cloneN x) with rs := ss, rn := sn } : NodeS)).length = ns.length := by rw [List.length_set, hLl]
  have cA3 : ∀ (k : Nat) (f : FuncId) (t : Bool), evCall TE (k + 2) f (.fn 37 [] []) [.agg [.sl (nodesA (L.set n.toNat ({ cloneN (cloneN x) with rs := ss, rn := sn } : NodeS))) ns.length t, .int .u32 gen], .int .i64 n] ⟨[], []⟩ = some (.ret (.tup [.agg (attrsS { x with rs := ss, rn := sn } n), .bool true]), ⟨[], []⟩) := fun k f t => attrs_some k f ⟨[], []⟩ _ _ (.inr ⟨t, by rw [hXl]⟩) gen n ({ cloneN (cloneN x) with rs := ss, rn := sn } : NodeS) hXk hXx hzo
  have hv1 : ((nodesA (ns.map cloneN)).length + 1) = (nodesA L).length + 1 := by rw [nodesA_len, nodesA_len, hml, hLl]
  have hv2 : ((nodesA (ns.map cloneN)).length + 1) = (nodesA (L.set n.toNat ({ cloneN (cloneN x) with rs := ss, rn := sn } : NodeS))).length + 1 := by rw [nodesA_len, nodesA_len, hml, hXl]
  have hfit : 0 + n.toNat * 25 + 6 + 2 ≤ (nodesA L).length := by rw [nodesA_len, hLl]; omega
  have hsl2 : (nodesA (L.set n.toNat ({ cloneN (cloneN x) with rs := ss, rn := sn } : NodeS))).length = ns.length * 25 := by rw [nodesA_len, hXl]
  have hcl3 : cleanL (nodesA (L.set n.toNat ({ cloneN (cloneN x) with rs := ss, rn := sn } : NodeS))) = true := nodesA_clean fun y hy => ⟨row_clean (hLok y hy).1, ents_clean (hLok y hy).2⟩
  unfold attrsS at cA cA3 ⊢
  generalize IntKind.wrap .u64 (sizeS x) = sz at cA cA3 ⊢
  generalize IntKind.wrap .u32 x.links = lk at cA cA3 ⊢
  generalize IntKind.wrap .u64 n = idn at cA cA3 ⊢
  obtain ⟨p, hv, hl, nm, h2, h2l, nm2, st, hasG, gs, gn, bits, off, cnt, mx, stb, dat, datl, tg, how, kd, vf, ck⟩ := a
  dsimp only at hsl cD cF hd hp hone2 hone3 htop3 hcl hJ0 hJ1 hrest hM0 hM1 hD hs1 hs2 ⊢
  subst hsl
  subst hp
  have hcg := hc.1
  obtain ⟨cu, cg, cgs, cl⟩ := c
  unfold credA at cM
  dsimp only at hcg cM hone1 hone3 htop3 hcl ⊢
  rcases hcg with ⟨rfl, rfl⟩ | ⟨tc, rfl⟩
  · refine call_cleanE (fn := Try.f9) rfl Try.func9 rfl rfl hcl rfl rfl (Nat.le_of_ble_eq_true rfl) ?_
    intro End hE
    conv => whnf
    (refine runK_ret (ev_box rfl hone2) ?_)
    conv => whnf
    with_reducible refine ⟨_, _, cT _, ?_⟩
    conv => whnf
    (refine ⟨by kernel_rfl, ?_⟩)
    conv => whnf
    (refine runK_ret (ev_box rfl hone2) ?_)
    conv => whnf
    (refine listK_of (if_pos (Nat.le_trans (Nat.le_of_eq htop3) (Nat.zero_le _))) ?_)
    conv => whnf
    (refine ⟨by kernel_rfl, ?_⟩)
    conv => whnf
    (refine call_raw (fn := Try.f31) rfl Try.func31 rfl rfl (Nat.le_of_ble_eq_true rfl) ?_)
    conv => whnf
    (refine ⟨by kernel_rfl, ?_⟩)
    conv => whnf
    with_reducible refine ⟨_, _, cD _ _, ?_⟩
    conv => whnf
    with_reducible refine ⟨_, _, cK _ _, ?_⟩
    conv => whnf
    with_reducible refine ⟨_, _, cN _ _, ?_⟩
    conv => whnf
    ((with_reducible cases z0 : nanoOk sn) <;> try exact Bool.noConfusion (Eq.trans (Eq.symm z0) hno))
    conv => whnf
    with_reducible refine ⟨_, _, cF _ _, ?_⟩
    conv => whnf
    (refine call_inline (fn := Try.f57) rfl Try.func57 rfl rfl ?_)
    conv => whnf
    (refine call_inline (fn := Try.f68) rfl Try.func68 rfl rfl ?_)
    conv => whnf
    with_reducible refine ⟨_, _, cA _ _ _, ?_⟩
    conv => whnf
    (refine ⟨by kernel_rfl, ?_⟩)
    conv => whnf
    (refine ⟨by kernel_rfl, ?_⟩)
    conv => whnf
    (refine call_inline (fn := Try.f69) rfl Try.func69 rfl rfl ?_)
    conv => whnf
    (refine runK_ret (ev_indexSl (sz := 25) rfl rfl rfl rfl hn0 hn2) ?_)
    conv => whnf
    (refine runK_ret (ev_loadV (z := 1) (v := .int .u32 x.kind) rfl rfl rfl ((nodesA_cell hmx 0 (by decide)).trans rfl)) ?_)
    conv => whnf
    (refine ⟨by kernel_rfl, ?_⟩)
    conv => whnf
    ((with_reducible cases z1 : x.kind == Int.ofNat 2) <;> try exact Bool.noConfusion (Eq.trans (Eq.symm z1) hk))
    conv => whnf
    (refine call_inline (fn := Try.f69) rfl Try.func69 rfl rfl ?_)
    conv => whnf
    (refine runK_ret (ev_indexSl (sz := 25) rfl rfl rfl rfl hn0 hn2) ?_)
    conv => whnf
    (refine runK_ret (ev_loadV (z := 1) (v := .int .u32 x.kind) rfl rfl rfl ((nodesA_cell hmx 0 (by decide)).trans rfl)) ?_)
    conv => whnf
    (refine ⟨by kernel_rfl, ?_⟩)
    conv => whnf
    ((with_reducible cases z2 : x.kind == Int.ofNat 5) <;> try exact Bool.noConfusion (Eq.trans (Eq.symm z2) hk5))
    conv => whnf
    with_reducible refine ⟨_, _, cM _ _ _, ?_⟩
    conv => whnf
    (refine ⟨by kernel_rfl, ?_⟩)
    conv => whnf
    ((with_reducible cases z3 : my) <;> try exact Bool.noConfusion (Eq.trans (Eq.symm z3) hmay))
    conv => whnf
    (refine ⟨by kernel_rfl, ?_⟩)
    conv => whnf
    (refine runK_ret (ev_indexSl (sz := 25) rfl rfl rfl rfl hn0 hn2) ?_)
    conv => whnf
    (refine runK_ret (ev_loadV (z := 1) rfl rfl rfl ((nodesA_cell hmx 12 (by decide)).trans hdA)) ?_)
    conv => whnf
    (refine ⟨by kernel_rfl, ?_⟩)
    conv => whnf
    (refine runK_ret (hs1 rfl rfl) ?_)
    conv => whnf
    (refine runK_ret (hs2 rfl rfl) ?_)
    conv => whnf
    with_reducible refine ⟨_, _, kb1 _ _ _ _, ?_⟩
    conv => whnf
    with_reducible refine ⟨_, _, kb4 _ _ _ _, ?_⟩
    conv => whnf
    (refine twinL_K (m + 26) 57 _ (ns.map cloneN) true gen hok2 (by rw [hml]; exact hlen) hne2 _ _ _ _ _ _ _ _ _ _ _ _ _ _ _ _ _ _ _ _ _ _ _ _ _ _ _ _ _ _ _ _ _ _ _ _ _ _ _ _ _ _ _ _ _ _ _ _ _ _ _ _ _ _ _ _ _ _ _ _ _ _ _ _ _ _ _ ns.length hml rfl ?_; intro L' hL'; obtain rfl : L = L' := hL.trans hL'.symm; clear hL')
    conv => whnf
    (refine runK_ret (ev_indexRsl (sz := 25) rfl rfl rfl rfl hn0 hn2) ?_)
    conv => whnf
    (refine runK_if ⟨hv1, rfl, hfit, .inl rfl⟩ (runK_ret rfl ?_))
    conv => whnf
    (refine listK_of (splice_nodes0 (k := 6) (x' := ({ cloneN (cloneN x) with rs := ss, rn := sn } : NodeS)) hLx (Nat.le_of_ble_eq_true rfl) rfl) ?_)
    conv => whnf
    (refine ⟨by kernel_rfl, ?_⟩)
    conv => whnf
    (refine call_inline (fn := Try.f53) rfl Try.func53 rfl rfl ?_)
    conv => whnf
    (refine call_inline (fn := Try.f68) rfl Try.func68 rfl rfl ?_)
    conv => whnf
    (refine ⟨_, _, call_lend rfl rfl (lend_tree2 (l := L.set n.toNat ({ cloneN (cloneN x) with rs := ss, rn := sn } : NodeS)) rfl hv2 hLok hXl rfl) rfl rfl (cA3 _ _ _), ?_⟩)
    conv => whnf
    (refine ⟨by kernel_rfl, ?_⟩)
    conv => whnf
    (refine ⟨by kernel_rfl, ?_⟩)
    conv => whnf
    (refine hE _ _ [(.agg [.rsl 70 0 ns.length (some ns.length) ((nodesA (ns.map cloneN)).length + 1), .int .u32 gen]), .agg (ansA 6 { stat := 0, ha := true, at_ := [.int .u32 x.kind, .int .u32 x.mode, .int .u32 lk, .int .u32 x.user, .int .u32 x.group, .int .u64 (IntKind.wrap .u64 (sizeS ({ x with rs := ss, rn := sn } : NodeS))), .int .u64 (IntKind.wrap .u64 (sizeS ({ x with rs := ss, rn := sn } : NodeS))), .int .u64 idn, .int .u32 ss, .int .u32 sn, .int .u32 x.ws, .int .u32 x.wn, .int .u32 x.ts, .int .u32 x.tn], count := IntKind.wrap .u32 (if (32768 : Int) < (if IntKind.wrap .u64 cnt < IntKind.wrap .u64 (rest.length : Int) then IntKind.wrap .u64 cnt else IntKind.wrap .u64 (rest.length : Int)) then 32768 else (if IntKind.wrap .u64 cnt < IntKind.wrap .u64 (rest.length : Int) then IntKind.wrap .u64 cnt else IntKind.wrap .u64 (rest.length : Int))), en := (if (32768 : Int) < (if IntKind.wrap .u64 cnt < IntKind.wrap .u64 (rest.length : Int) then IntKind.wrap .u64 cnt else IntKind.wrap .u64 (rest.length : Int)) then 32768 else (if IntKind.wrap .u64 cnt < IntKind.wrap .u64 (rest.length : Int) then IntKind.wrap .u64 cnt else IntKind.wrap .u64 (rest.length : Int))) == IntKind.wrap .u64 (rest.length : Int), data := .sl (numsA .u8 (da0 :: dr)) (da0 :: dr).length true })] _ _ (.inr rfl) (by kernel_rfl) (leaveA_of (seal_tupR (seal_deep rfl hv2 rfl rfl (sealVL_clean _ _ _ hcl3) rfl hcl3 rfl rfl rfl rfl rfl hsl2 (Nat.le_of_ble_eq_true rfl)) rfl) rfl rfl) ?_)
    conv => whnf
    (rw [show tightA (some ns.length) ns.length = true from decide_eq_true rfl])
  · refine call_cleanE (fn := Try.f9) rfl Try.func9 rfl rfl hcl rfl rfl (Nat.le_of_ble_eq_true rfl) ?_
    intro End hE
    conv => whnf
    (refine runK_ret (ev_box rfl hone2) ?_)
    conv => whnf
    with_reducible refine ⟨_, _, cT _, ?_⟩
    conv => whnf
    (refine ⟨by kernel_rfl, ?_⟩)
    conv => whnf
    (refine runK_ret (ev_box rfl hone2) ?_)
    conv => whnf
    (refine listK_of (if_pos (Nat.le_trans (Nat.le_of_eq htop3) (Nat.zero_le _))) ?_)
    conv => whnf
    (refine ⟨by kernel_rfl, ?_⟩)
    conv => whnf
    (refine call_raw (fn := Try.f31) rfl Try.func31 rfl rfl (Nat.le_of_ble_eq_true rfl) ?_)
    conv => whnf
    (refine ⟨by kernel_rfl, ?_⟩)
    conv => whnf
    with_reducible refine ⟨_, _, cD _ _, ?_⟩
    conv => whnf
    with_reducible refine ⟨_, _, cK _ _, ?_⟩
    conv => whnf
    with_reducible refine ⟨_, _, cN _ _, ?_⟩
    conv => whnf
    ((with_reducible cases z0 : nanoOk sn) <;> try exact Bool.noConfusion (Eq.trans (Eq.symm z0) hno))
    conv => whnf
    with_reducible refine ⟨_, _, cF _ _, ?_⟩
    conv => whnf
    (refine call_inline (fn := Try.f57) rfl Try.func57 rfl rfl ?_)
    conv => whnf
    (refine call_inline (fn := Try.f68) rfl Try.func68 rfl rfl ?_)
    conv => whnf
    with_reducible refine ⟨_, _, cA _ _ _, ?_⟩
    conv => whnf
    (refine ⟨by kernel_rfl, ?_⟩)
    conv => whnf
    (refine ⟨by kernel_rfl, ?_⟩)
    conv => whnf
    (refine call_inline (fn := Try.f69) rfl Try.func69 rfl rfl ?_)
    conv => whnf
    (refine runK_ret (ev_indexSl (sz := 25) rfl rfl rfl rfl hn0 hn2) ?_)
    conv => whnf
    (refine runK_ret (ev_loadV (z := 1) (v := .int .u32 x.kind) rfl rfl rfl ((nodesA_cell hmx 0 (by decide)).trans rfl)) ?_)
    conv => whnf
    (refine ⟨by kernel_rfl, ?_⟩)
    conv => whnf
    ((with_reducible cases z1 : x.kind == Int.ofNat 2) <;> try exact Bool.noConfusion (Eq.trans (Eq.symm z1) hk))
    conv => whnf
    (refine call_inline (fn := Try.f69) rfl Try.func69 rfl rfl ?_)
    conv => whnf
    (refine runK_ret (ev_indexSl (sz := 25) rfl rfl rfl rfl hn0 hn2) ?_)
    conv => whnf
    (refine runK_ret (ev_loadV (z := 1) (v := .int .u32 x.kind) rfl rfl rfl ((nodesA_cell hmx 0 (by decide)).trans rfl)) ?_)
    conv => whnf
    (refine ⟨by kernel_rfl, ?_⟩)
    conv => whnf
    ((with_reducible cases z2 : x.kind == Int.ofNat 5) <;> try exact Bool.noConfusion (Eq.trans (Eq.symm z2) hk5))
    conv => whnf
    with_reducible refine ⟨_, _, cM _ _ _, ?_⟩
    conv => whnf
    (refine ⟨by kernel_rfl, ?_⟩)
    conv => whnf
    ((with_reducible cases z3 : my) <;> try exact Bool.noConfusion (Eq.trans (Eq.symm z3) hmay))
    conv => whnf
    (refine ⟨by kernel_rfl, ?_⟩)
    conv => whnf
    (refine runK_ret (ev_indexSl (sz := 25) rfl rfl rfl rfl hn0 hn2) ?_)
    conv => whnf
    (refine runK_ret (ev_loadV (z := 1) rfl rfl rfl ((nodesA_cell hmx 12 (by decide)).trans hdA)) ?_)
    conv => whnf
    (refine ⟨by kernel_rfl, ?_⟩)
    conv => whnf
    (refine runK_ret (hs1 rfl rfl) ?_)
    conv => whnf
    (refine runK_ret (hs2 rfl rfl) ?_)
    conv => whnf
    with_reducible refine ⟨_, _, kb1 _ _ _ _, ?_⟩
    conv => whnf
    with_reducible refine ⟨_, _, kb4 _ _ _ _, ?_⟩
    conv => whnf
    (refine twinL_K (m + 26) 57 _ (ns.map cloneN) true gen hok2 (by rw [hml]; exact hlen) hne2 _ _ _ _ _ _ _ _ _ _ _ _ _ _ _ _ _ _ _ _ _ _ _ _ _ _ _ _ _ _ _ _ _ _ _ _ _ _ _ _ _ _ _ _ _ _ _ _ _ _ _ _ _ _ _ _ _ _ _ _ _ _ _ _ _ _ _ ns.length hml rfl ?_; intro L' hL'; obtain rfl : L = L' := hL.trans hL'.symm; clear hL')
    conv => whnf
    (refine runK_ret (ev_indexRsl (sz := 25) rfl rfl rfl rfl hn0 hn2) ?_)
    conv => whnf
    (refine runK_if ⟨hv1, rfl, hfit, .inl rfl⟩ (runK_ret rfl ?_))
    conv => whnf
    (refine listK_of (splice_nodes0 (k := 6) (x' := ({ cloneN (cloneN x) with rs := ss, rn := sn } : NodeS)) hLx (Nat.le_of_ble_eq_true rfl) rfl) ?_)
    conv => whnf
    (refine ⟨by kernel_rfl, ?_⟩)
    conv => whnf
    (refine call_inline (fn := Try.f53) rfl Try.func53 rfl rfl ?_)
    conv => whnf
    (refine call_inline (fn := Try.f68) rfl Try.func68 rfl rfl ?_)
    conv => whnf
    (refine ⟨_, _, call_lend rfl rfl (lend_tree2 (l := L.set n.toNat ({ cloneN (cloneN x) with rs := ss, rn := sn } : NodeS)) rfl hv2 hLok hXl rfl) rfl rfl (cA3 _ _ _), ?_⟩)
    conv => whnf
    (refine ⟨by kernel_rfl, ?_⟩)
    conv => whnf
    (refine ⟨by kernel_rfl, ?_⟩)
    conv => whnf
    (refine hE _ _ [(.agg [.rsl 70 0 ns.length (some ns.length) ((nodesA (ns.map cloneN)).length + 1), .int .u32 gen]), .agg (ansA 6 { stat := 0, ha := true, at_ := [.int .u32 x.kind, .int .u32 x.mode, .int .u32 lk, .int .u32 x.user, .int .u32 x.group, .int .u64 (IntKind.wrap .u64 (sizeS ({ x with rs := ss, rn := sn } : NodeS))), .int .u64 (IntKind.wrap .u64 (sizeS ({ x with rs := ss, rn := sn } : NodeS))), .int .u64 idn, .int .u32 ss, .int .u32 sn, .int .u32 x.ws, .int .u32 x.wn, .int .u32 x.ts, .int .u32 x.tn], count := IntKind.wrap .u32 (if (32768 : Int) < (if IntKind.wrap .u64 cnt < IntKind.wrap .u64 (rest.length : Int) then IntKind.wrap .u64 cnt else IntKind.wrap .u64 (rest.length : Int)) then 32768 else (if IntKind.wrap .u64 cnt < IntKind.wrap .u64 (rest.length : Int) then IntKind.wrap .u64 cnt else IntKind.wrap .u64 (rest.length : Int))), en := (if (32768 : Int) < (if IntKind.wrap .u64 cnt < IntKind.wrap .u64 (rest.length : Int) then IntKind.wrap .u64 cnt else IntKind.wrap .u64 (rest.length : Int)) then 32768 else (if IntKind.wrap .u64 cnt < IntKind.wrap .u64 (rest.length : Int) then IntKind.wrap .u64 cnt else IntKind.wrap .u64 (rest.length : Int))) == IntKind.wrap .u64 (rest.length : Int), data := .sl (numsA .u8 (da0 :: dr)) (da0 :: dr).length true })] _ _ (.inr rfl) (by kernel_rfl) (leaveA_of (seal_tupR (seal_deep rfl hv2 rfl rfl (sealVL_clean _ _ _ hcl3) rfl hcl3 rfl rfl rfl rfl rfl hsl2 (Nat.le_of_ble_eq_true rfl)) rfl) rfl rfl) ?_)
    conv => whnf
    (rw [show tightA (some ns.length) ns.length = true from decide_eq_true rfl])
set_option maxHeartbeats 16000000 in
theorem look_read_own (m : Nat) (from_ : FuncId) (h : H) (ns : List NodeS) (t : Bool) (gen : Int) (c : CredS) (hc : c.ok) (a : ArgsS) (ha : a.ok) (ss sn : Int) (bo : Nat → Int) (hok : ∀ x ∈ ns, x.fit) (hlen : ns.length ≤ 1025) (hlen2 : ns ≠ []) (hK : ∀ (f : FuncId) (h : H), evCall TE (m + 29) f (.fn 7 [] []) [.agg [.sl (nodesA ns) ns.length t, .int .u32 gen]] h = some (.ret (.bool true), h)) (hp : a.proc = 6) (hno : nanoOk sn = true) (n : Int) (x : NodeS) (hn : thereS ns n = true) (hx : ns[n.toNat]? = some x) (hF : ∀ (f : FuncId) (h : H), evCall TE (m + 29) f (.fn 10 [] []) [.agg [.sl (nodesA ns) ns.length t, .int .u32 gen], a.h] h = some (.ret (.tup [.int .i64 n, .int .u32 0]), h)) (tt : Bool) (hsl : a.h = .sl (numsA .u8 a.hl) a.hl.length tt) (hk : (x.kind == 2) = false) (hk5 : (x.kind == 5) = false) (hmay : mayX x c 4 = false) (howns : ownsS ns n c = true) (td : Bool) (hda : x.data = .sl (numsA .u8 x.bytes) x.bytes.length td) (rest : List Int) (hJ0 : 0 ≤ (if IntKind.wrap .u64 (x.bytes.length : Int) < a.offset then IntKind.wrap .u64 (x.bytes.length : Int) else a.offset)) (hJ1 : (if IntKind.wrap .u64 (x.bytes.length : Int) < a.offset then IntKind.wrap .u64 (x.bytes.length : Int) else a.offset) ≤ x.bytes.length) (hrest : rest = x.bytes.drop (if IntKind.wrap .u64 (x.bytes.length : Int) < a.offset then IntKind.wrap .u64 (x.bytes.length : Int) else a.offset).toNat) (hM0 : 0 ≤ (if (32768 : Int) < (if IntKind.wrap .u64 a.count < IntKind.wrap .u64 (rest.length : Int) then IntKind.wrap .u64 a.count else IntKind.wrap .u64 (rest.length : Int)) then 32768 else (if IntKind.wrap .u64 a.count < IntKind.wrap .u64 (rest.length : Int) then IntKind.wrap .u64 a.count else IntKind.wrap .u64 (rest.length : Int)))) (hM1 : (if (32768 : Int) < (if IntKind.wrap .u64 a.count < IntKind.wrap .u64 (rest.length : Int) then IntKind.wrap .u64 a.count else IntKind.wrap .u64 (rest.length : Int)) then 32768 else (if IntKind.wrap .u64 a.count < IntKind.wrap .u64 (rest.length : Int) then IntKind.wrap .u64 a.count else IntKind.wrap .u64 (rest.length : Int))) ≤ rest.length) (da0 : Int) (dr : List Int) (hD : rest.take (if (32768 : Int) < (if IntKind.wrap .u64 a.count < IntKind.wrap .u64 (rest.length : Int) then IntKind.wrap .u64 a.count else IntKind.wrap .u64 (rest.length : Int)) then 32768 else (if IntKind.wrap .u64 a.count < IntKind.wrap .u64 (rest.length : Int) then IntKind.wrap .u64 a.count else IntKind.wrap .u64 (rest.length : Int))).toNat = da0 :: dr) (hDl : dr.length ≤ 40000) : evCall TE (m + 30) from_ (.fn 9 [] []) [.agg [.sl (nodesA ns) ns.length t, .int .u32 gen], .agg (credL c), .agg (argL a), .agg (worldL ss sn bo)] h = some (.ret (.tup [.agg [.sl (nodesA (((ns.map cloneN).map cloneN).set n.toNat ({ cloneN (cloneN x) with rs := ss, rn := sn } : NodeS))) ns.length true, .int .u32 gen], .agg (ansA a.proc { stat := 0, ha := true, at_ := attrsS { x with rs := ss, rn := sn } n, count := IntKind.wrap .u32 (if (32768 : Int) < (if IntKind.wrap .u64 a.count < IntKind.wrap .u64 (rest.length : Int) then IntKind.wrap .u64 a.count else IntKind.wrap .u64 (rest.length : Int)) then 32768 else (if IntKind.wrap .u64 a.count < IntKind.wrap .u64 (rest.length : Int) then IntKind.wrap .u64 a.count else IntKind.wrap .u64 (rest.length : Int))), en := (if (32768 : Int) < (if IntKind.wrap .u64 a.count < IntKind.wrap .u64 (rest.length : Int) then IntKind.wrap .u64 a.count else IntKind.wrap .u64 (rest.length : Int)) then 32768 else (if IntKind.wrap .u64 a.count < IntKind.wrap .u64 (rest.length : Int) then IntKind.wrap .u64 a.count else IntKind.wrap .u64 (rest.length : Int))) == IntKind.wrap .u64 (rest.length : Int), data := .sl (numsA .u8 (da0 :: dr)) (da0 :: dr).length true })]), h) := by
  have cT : ∀ (h : H), (evAll TE (m + 29)).1 9 (.fn 30 [] []) [.agg [.sl (nodesA ns) ns.length t, .int .u32 gen]] h = some (.ret (.agg [.sl (nodesA (ns.map cloneN)) ns.length true, .int .u32 gen]), h) := fun h => twinL_c (m + 27) h ns t gen hok hlen hlen2
  have cD : ∀ (f : FuncId) (h : H), (evAll TE (m + 29)).1 f (.fn 32 [] []) [.int .u32 a.proc] h = some (.ret (.bool (doesS a.proc)), h) := fun f h => does_c (m + 27) f h a.proc
  have cK : ∀ (f : FuncId) (h : H), (evAll TE (m + 29)).1 f (.fn 7 [] []) [.agg [.sl (nodesA ns) ns.length t, .int .u32 gen]] h = some (.ret (.bool true), h) := hK
  have cN : ∀ (f : FuncId) (h : H), (evAll TE (m + 29)).1 f (.fn 26 [] []) [.agg [.int .u32 ss, .int .u32 sn]] h = some (.ret (.bool (nanoOk sn)), h) := fun f h => times_c (m + 28) f h ss sn
  have hone1 := cred_one hc
  have hone2 := args_one ha
  have hone3 := work_one (ns := ns) (gen := gen) (ss := ss) (sn := sn) (bo := bo) hc ha
  have htop3 := work_top (ns := ns) (gen := gen) (ss := ss) (sn := sn) (bo := bo) hc ha
  clear hK
  have hcl : cleanL [.agg [.sl (nodesA ns) ns.length t, .int .u32 gen], .agg (credL c), .agg (argL a), .agg (worldL ss sn bo)] = true := by
    have h1 := row_clean hc.1
    have h2 := row_clean ha.h
    have h3 := row_clean ha.h2
    have h4 := row_clean ha.data
    simp [cleanL, AV.clean, credL, argL, worldL, h1, h2, h3, h4]
  have cF : ∀ (f : FuncId) (h : H), (evAll TE (m + 29)).1 f (.fn 10 [] []) [.agg [.sl (nodesA ns) ns.length t, .int .u32 gen], a.h] h = some (.ret (.tup [.int .i64 n, .int .u32 0]), h) := hF
  have hd : doesS a.proc = true := by rw [hp]; rfl
  have hm : thereS (ns.map cloneN) n = true := by rw [thereS_clone]; exact hn
  have hmx : (ns.map cloneN)[n.toNat]? = some (cloneN x) := by rw [List.getElem?_map, hx]; rfl
  have hml : (ns.map cloneN).length = ns.length := List.length_map ..
  have hxf := hok x (List.mem_of_getElem? hx)
  have hmo : (cloneN x).ok := ⟨bytesC_ok hxf.1.1, entsC_ok hxf.1.2⟩
  have hmv : nodesOk (.sl (nodesA (ns.map cloneN)) ns.length true) (ns.map cloneN) := .inr ⟨true, by rw [hml]⟩
  obtain ⟨hn1, hn2, _⟩ := there_facts hn
  have hn0 : 0 ≤ n := by omega
  have cA : ∀ (k : Nat) (f : FuncId) (h : H), (evAll TE (k + 2)).1 f (.fn 37 [] []) [.agg [.sl (nodesA (ns.map cloneN)) ns.length true, .int .u32 gen], .int .i64 n] h = some (.ret (.tup [.agg (attrsS x n), .bool true]), h) := fun k f h => attrs_some k f h _ _ hmv gen n (cloneN x) hm hmx hmo
  clear hF
  have hdA : (nodeA (cloneN x))[12]? = some (.sl (numsA .u8 x.bytes) x.bytes.length true) := by
    show some (cloneN x).data = _
    unfold cloneN
    dsimp only
    rw [hda]
    rfl
  have hs1 : ∀ {nid : Nat} {ρ : Operand → AV} {o lo : Operand}, ρ o = .sl (numsA .u8 x.bytes) x.bytes.length true → ρ lo = .int .u64 (if IntKind.wrap .u64 (x.bytes.length : Int) < a.offset then IntKind.wrap .u64 (x.bytes.length : Int) else a.offset) → evOp TE.P TE.flat nid (.slice 30 o (some lo) none none) ρ = .ret (.sl (numsA .u8 rest) rest.length true, .none) := fun ho hlo => by
    rw [ev_sliceFrom (sz := 1) rfl rfl ho hlo hJ0 hJ1 (by simp [numsA]), Nat.mul_one, numsA_drop, ← hrest, hrest, List.length_drop]
  have hs2 : ∀ {nid : Nat} {ρ : Operand → AV} {o hi : Operand}, ρ o = .sl (numsA .u8 rest) rest.length true → ρ hi = .int .u64 (if (32768 : Int) < (if IntKind.wrap .u64 a.count < IntKind.wrap .u64 (rest.length : Int) then IntKind.wrap .u64 a.count else IntKind.wrap .u64 (rest.length : Int)) then 32768 else (if IntKind.wrap .u64 a.count < IntKind.wrap .u64 (rest.length : Int) then IntKind.wrap .u64 a.count else IntKind.wrap .u64 (rest.length : Int))) → evOp TE.P TE.flat nid (.slice 30 o none (some hi) none) ρ = .ret (.sl (numsA .u8 (da0 :: dr)) (da0 :: dr).length (true && decide ((if (32768 : Int) < (if IntKind.wrap .u64 a.count < IntKind.wrap .u64 (rest.length : Int) then IntKind.wrap .u64 a.count else IntKind.wrap .u64 (rest.length : Int)) then 32768 else (if IntKind.wrap .u64 a.count < IntKind.wrap .u64 (rest.length : Int) then IntKind.wrap .u64 a.count else IntKind.wrap .u64 (rest.length : Int))).toNat = rest.length)), .none) := fun ho hhi => by
    rw [ev_sliceTo (sz := 1) rfl rfl ho hhi hM0 hM1 (by simp [numsA]; omega), Nat.mul_one, numsA_take, hD, ← hD, List.length_take, Nat.min_eq_left (by omega)]
  have kb1 : ∀ (k : Nat) (f : FuncId) (h : H) (t : Bool), (evAll TE (k + 1)).1 f (.fn 50 [] []) [.sl (numsA .u8 (da0 :: dr)) (da0 :: dr).length t] h = some (.ret (.sl (numsA .u8 (da0 :: dr)) (da0 :: dr).length false), h) := fun k f h t => bytesClone_c k f h da0 dr t (by simp; omega)
  have kb4 : ∀ (k : Nat) (f : FuncId) (h : H) (t : Bool), (evAll TE (k + 1)).1 f (.fn 49 [] []) [.sl (numsA .u8 (da0 :: dr)) (da0 :: dr).length t] h = some (.ret (.sl (numsA .u8 (da0 :: dr)) (da0 :: dr).length true), h) := fun k f h t => bytesClip_c k f h (da0 :: dr) t
  have cM : ∀ (k : Nat) (f : FuncId) (h : H), (evAll TE (k + 4)).1 f (.fn 15 [] []) [.agg [.sl (nodesA (ns.map cloneN)) ns.length true, .int .u32 gen], .int .i64 n, credA c, .int .u32 4] h = some (.ret (.bool (mayX x c 4)), h) := fun k f h => may_some k f h _ _ hmv gen n c 4 hc (cloneN x) hm hmx hmo
  obtain ⟨my, hmy⟩ : ∃ b, b = mayX x c 4 := ⟨_, rfl⟩
  rw [← hmy] at cM hmay
  have cO : ∀ (k : Nat) (f : FuncId) (h : H), (evAll TE (k + 3)).1 f (.fn 16 [] []) [.agg [.sl (nodesA (ns.map cloneN)) ns.length true, .int .u32 gen], .int .i64 n, credA c] h = some (.ret (.bool (ownsS ns n c)), h) := fun k f h => by
    have := owns_c k f h _ _ hmv (fun y hy => by
      obtain ⟨z, hz, rfl⟩ := List.mem_map.1 hy
      exact ⟨bytesC_ok (hok z hz).1.1, entsC_ok (hok z hz).1.2⟩) gen n c hc
    have e : ownsS (ns.map cloneN) n c = ownsS ns n c := by
      unfold ownsS
      rw [thereS_clone, hmx, hx]
      rfl
    rw [e] at this
    exact this
  obtain ⟨ow, how_⟩ : ∃ b, b = ownsS ns n c := ⟨_, rfl⟩
  rw [← how_] at cO howns
  have cW : ∀ (K : AV → H → Prop) (KK : Nat), True := fun _ _ => trivial
  clear cW
  have hok2 : ∀ y ∈ ns.map cloneN, y.fit := fun y hy => by
    obtain ⟨z, hz, rfl⟩ := List.mem_map.1 hy
    exact ⟨⟨bytesC_ok (hok z hz).1.1, entsC_ok (hok z hz).1.2⟩, (hok z hz).2⟩
  have hne2 : ns.map cloneN ≠ [] := fun h => hlen2 (List.map_eq_nil_iff.1 h)
  have hzx : ((ns.map cloneN).map cloneN)[n.toNat]? = some (cloneN (cloneN x)) := by rw [List.getElem?_map, hmx]; rfl
  have hzl : ((ns.map cloneN).map cloneN).length = ns.length := by rw [List.length_map, hml]
  have hzo : ((cloneN (cloneN x))).ok := ⟨bytesC_ok hmo.1, entsC_ok hmo.2⟩
  obtain ⟨L, hL⟩ : ∃ L, L = ((ns.map cloneN).map cloneN) := ⟨_, rfl⟩
  rw [← hL]
  have hLx : L[n.toNat]? = some (cloneN (cloneN x)) := by rw [hL]; exact hzx
  have hLl : L.length = ns.length := by rw [hL]; exact hzl
  have hLok : ∀ y ∈ L.set n.toNat ({ cloneN (cloneN x) with rs := ss, rn := sn } : NodeS), y.ok := by
    intro y hy
    rcases List.mem_or_eq_of_mem_set hy with hy | rfl
    · rw [hL] at hy
      obtain ⟨z, hz, rfl⟩ := List.mem_map.1 hy
      exact ⟨bytesC_ok (hok2 z hz).1.1, entsC_ok (hok2 z hz).1.2⟩
    · exact hzo
  have hXk : thereS (L.set n.toNat ({ cloneN (cloneN x) with rs := ss, rn := sn } : NodeS)) n = true := by
    have h1 : thereS ((ns.map cloneN).map cloneN) n = true := by rw [thereS_clone]; exact hm
    rw [← hL] at h1
    unfold thereS kindS at h1 ⊢
    rw [List.length_set, List.getElem?_set_self (by omega)]
    rw [hLx] at h1
    exact h1
  have hXx : (L.set n.toNat ({ cloneN (cloneN x) with rs := ss, rn := sn } : NodeS))[n.toNat]? = some ({ cloneN (cloneN x) with rs := ss, rn := sn } : NodeS) := List.getElem?_set_self (by omega)
  have hXl : (L.set n.toNat ({ cloneN (cloneN x) with rs := ss, rn := sn } : NodeS)).length = ns.length := by rw [List.length_set, hLl]
  have cA3 : ∀ (k : Nat) (f : FuncId) (t : Bool), evCall TE (k + 2) f (.fn 37 [] []) [.agg [.sl (nodesA (L.set n.toNat ({ cloneN (cloneN x) with rs := ss, rn := sn } : NodeS))) ns.length t, .int .u32 gen], .int .i64 n] ⟨[], []⟩ = some (.ret (.tup [.agg (attrsS { x with rs := ss, rn := sn } n), .bool true]), ⟨[], []⟩) := fun k f t => attrs_some k f ⟨[], []⟩ _ _ (.inr ⟨t, by rw [hXl]⟩) gen n ({ cloneN (cloneN x) with rs := ss, rn := sn } : NodeS) hXk hXx hzo
  have hv1 : ((nodesA (ns.map cloneN)).length + 1) = (nodesA L).length + 1 := by rw [nodesA_len, nodesA_len, hml, hLl]
  have hv2 : ((nodesA (ns.map cloneN)).length + 1) = (nodesA (L.set n.toNat ({ cloneN (cloneN x) with rs := ss, rn := sn } : NodeS))).length + 1 := by rw [nodesA_len, nodesA_len, hml, hXl]
  have hfit : 0 + n.toNat * 25 + 6 + 2 ≤ (nodesA L).length := by rw [nodesA_len, hLl]; omega
  have hsl2 : (nodesA (L.set n.toNat ({ cloneN (cloneN x) with rs := ss, rn := sn } : NodeS))).length = ns.length * 25 := by rw [nodesA_len, hXl]
  have hcl3 : cleanL (nodesA (L.set n.toNat ({ cloneN (cloneN x) with rs := ss, rn := sn } : NodeS))) = true := nodesA_clean fun y hy => ⟨row_clean (hLok y hy).1, ents_clean (hLok y hy).2⟩
  unfold attrsS at cA cA3 ⊢
  generalize IntKind.wrap .u64 (sizeS x) = sz at cA cA3 ⊢
  generalize IntKind.wrap .u32 x.links = lk at cA cA3 ⊢
  generalize IntKind.wrap .u64 n = idn at cA cA3 ⊢
  obtain ⟨p, hv, hl, nm, h2, h2l, nm2, st, hasG, gs, gn, bits, off, cnt, mx, stb, dat, datl, tg, how, kd, vf, ck⟩ := a
  dsimp only at hsl cD cF hd hp hone2 hone3 htop3 hcl hJ0 hJ1 hrest hM0 hM1 hD hs1 hs2 ⊢
  subst hsl
  subst hp
  have hcg := hc.1
  obtain ⟨cu, cg, cgs, cl⟩ := c
  unfold credA at cM cO
  dsimp only at hcg cM cO hone1 hone3 htop3 hcl ⊢
  rcases hcg with ⟨rfl, rfl⟩ | ⟨tc, rfl⟩
  · refine call_cleanE (fn := Try.f9) rfl Try.func9 rfl rfl hcl rfl rfl (Nat.le_of_ble_eq_true rfl) ?_
    intro End hE
    conv => whnf
    (refine runK_ret (ev_box rfl hone2) ?_)
    conv => whnf
    with_reducible refine ⟨_, _, cT _, ?_⟩
    conv => whnf
    (refine ⟨by kernel_rfl, ?_⟩)
    conv => whnf
    (refine runK_ret (ev_box rfl hone2) ?_)
    conv => whnf
    (refine listK_of (if_pos (Nat.le_trans (Nat.le_of_eq htop3) (Nat.zero_le _))) ?_)
    conv => whnf
    (refine ⟨by kernel_rfl, ?_⟩)
    conv => whnf
    (refine call_raw (fn := Try.f31) rfl Try.func31 rfl rfl (Nat.le_of_ble_eq_true rfl) ?_)
    conv => whnf
    (refine ⟨by kernel_rfl, ?_⟩)
    conv => whnf
    with_reducible refine ⟨_, _, cD _ _, ?_⟩
    conv => whnf
    with_reducible refine ⟨_, _, cK _ _, ?_⟩
    conv => whnf
    with_reducible refine ⟨_, _, cN _ _, ?_⟩
    conv => whnf
    ((with_reducible cases z0 : nanoOk sn) <;> try exact Bool.noConfusion (Eq.trans (Eq.symm z0) hno))
    conv => whnf
    with_reducible refine ⟨_, _, cF _ _, ?_⟩
    conv => whnf
    (refine call_inline (fn := Try.f57) rfl Try.func57 rfl rfl ?_)
    conv => whnf
    (refine call_inline (fn := Try.f68) rfl Try.func68 rfl rfl ?_)
    conv => whnf
    with_reducible refine ⟨_, _, cA _ _ _, ?_⟩
    conv => whnf
    (refine ⟨by kernel_rfl, ?_⟩)
    conv => whnf
    (refine ⟨by kernel_rfl, ?_⟩)
    conv => whnf
    (refine call_inline (fn := Try.f69) rfl Try.func69 rfl rfl ?_)
    conv => whnf
    (refine runK_ret (ev_indexSl (sz := 25) rfl rfl rfl rfl hn0 hn2) ?_)
    conv => whnf
    (refine runK_ret (ev_loadV (z := 1) (v := .int .u32 x.kind) rfl rfl rfl ((nodesA_cell hmx 0 (by decide)).trans rfl)) ?_)
    conv => whnf
    (refine ⟨by kernel_rfl, ?_⟩)
    conv => whnf
    ((with_reducible cases z1 : x.kind == Int.ofNat 2) <;> try exact Bool.noConfusion (Eq.trans (Eq.symm z1) hk))
    conv => whnf
    (refine call_inline (fn := Try.f69) rfl Try.func69 rfl rfl ?_)
    conv => whnf
    (refine runK_ret (ev_indexSl (sz := 25) rfl rfl rfl rfl hn0 hn2) ?_)
    conv => whnf
    (refine runK_ret (ev_loadV (z := 1) (v := .int .u32 x.kind) rfl rfl rfl ((nodesA_cell hmx 0 (by decide)).trans rfl)) ?_)
    conv => whnf
    (refine ⟨by kernel_rfl, ?_⟩)
    conv => whnf
    ((with_reducible cases z2 : x.kind == Int.ofNat 5) <;> try exact Bool.noConfusion (Eq.trans (Eq.symm z2) hk5))
    conv => whnf
    with_reducible refine ⟨_, _, cM _ _ _, ?_⟩
    conv => whnf
    (refine ⟨by kernel_rfl, ?_⟩)
    conv => whnf
    ((with_reducible cases z3 : my) <;> try exact Bool.noConfusion (Eq.trans (Eq.symm z3) hmay))
    conv => whnf
    with_reducible refine ⟨_, _, cO _ _ _, ?_⟩
    conv => whnf
    (refine ⟨by kernel_rfl, ?_⟩)
    conv => whnf
    (refine ⟨by kernel_rfl, ?_⟩)
    conv => whnf
    ((with_reducible cases z4 : ow) <;> try exact Bool.noConfusion (Eq.trans (Eq.symm z4) howns))
    conv => whnf
    (refine runK_ret (ev_indexSl (sz := 25) rfl rfl rfl rfl hn0 hn2) ?_)
    conv => whnf
    (refine runK_ret (ev_loadV (z := 1) rfl rfl rfl ((nodesA_cell hmx 12 (by decide)).trans hdA)) ?_)
    conv => whnf
    (refine ⟨by kernel_rfl, ?_⟩)
    conv => whnf
    (refine runK_ret (hs1 rfl rfl) ?_)
    conv => whnf
    (refine runK_ret (hs2 rfl rfl) ?_)
    conv => whnf
    with_reducible refine ⟨_, _, kb1 _ _ _ _, ?_⟩
    conv => whnf
    with_reducible refine ⟨_, _, kb4 _ _ _ _, ?_⟩
    conv => whnf
    (refine twinL_K (m + 26) 57 _ (ns.map cloneN) true gen hok2 (by rw [hml]; exact hlen) hne2 _ _ _ _ _ _ _ _ _ _ _ _ _ _ _ _ _ _ _ _ _ _ _ _ _ _ _ _ _ _ _ _ _ _ _ _ _ _ _ _ _ _ _ _ _ _ _ _ _ _ _ _ _ _ _ _ _ _ _ _ _ _ _ _ _ _ _ ns.length hml rfl ?_; intro L' hL'; obtain rfl : L = L' := hL.trans hL'.symm; clear hL')
    conv => whnf
    (refine runK_ret (ev_indexRsl (sz := 25) rfl rfl rfl rfl hn0 hn2) ?_)
    conv => whnf
    (refine runK_if ⟨hv1, rfl, hfit, .inl rfl⟩ (runK_ret rfl ?_))
    conv => whnf
    (refine listK_of (splice_nodes0 (k := 6) (x' := ({ cloneN (cloneN x) with rs := ss, rn := sn } : NodeS)) hLx (Nat.le_of_ble_eq_true rfl) rfl) ?_)
    conv => whnf
    (refine ⟨by kernel_rfl, ?_⟩)
    conv => whnf
    (refine call_inline (fn := Try.f53) rfl Try.func53 rfl rfl ?_)
    conv => whnf
    (refine call_inline (fn := Try.f68) rfl Try.func68 rfl rfl ?_)
    conv => whnf
    (refine ⟨_, _, call_lend rfl rfl (lend_tree2 (l := L.set n.toNat ({ cloneN (cloneN x) with rs := ss, rn := sn } : NodeS)) rfl hv2 hLok hXl rfl) rfl rfl (cA3 _ _ _), ?_⟩)
    conv => whnf
    (refine ⟨by kernel_rfl, ?_⟩)
    conv => whnf
    (refine ⟨by kernel_rfl, ?_⟩)
    conv => whnf
    (refine hE _ _ [(.agg [.rsl 70 0 ns.length (some ns.length) ((nodesA (ns.map cloneN)).length + 1), .int .u32 gen]), .agg (ansA 6 { stat := 0, ha := true, at_ := [.int .u32 x.kind, .int .u32 x.mode, .int .u32 lk, .int .u32 x.user, .int .u32 x.group, .int .u64 (IntKind.wrap .u64 (sizeS ({ x with rs := ss, rn := sn } : NodeS))), .int .u64 (IntKind.wrap .u64 (sizeS ({ x with rs := ss, rn := sn } : NodeS))), .int .u64 idn, .int .u32 ss, .int .u32 sn, .int .u32 x.ws, .int .u32 x.wn, .int .u32 x.ts, .int .u32 x.tn], count := IntKind.wrap .u32 (if (32768 : Int) < (if IntKind.wrap .u64 cnt < IntKind.wrap .u64 (rest.length : Int) then IntKind.wrap .u64 cnt else IntKind.wrap .u64 (rest.length : Int)) then 32768 else (if IntKind.wrap .u64 cnt < IntKind.wrap .u64 (rest.length : Int) then IntKind.wrap .u64 cnt else IntKind.wrap .u64 (rest.length : Int))), en := (if (32768 : Int) < (if IntKind.wrap .u64 cnt < IntKind.wrap .u64 (rest.length : Int) then IntKind.wrap .u64 cnt else IntKind.wrap .u64 (rest.length : Int)) then 32768 else (if IntKind.wrap .u64 cnt < IntKind.wrap .u64 (rest.length : Int) then IntKind.wrap .u64 cnt else IntKind.wrap .u64 (rest.length : Int))) == IntKind.wrap .u64 (rest.length : Int), data := .sl (numsA .u8 (da0 :: dr)) (da0 :: dr).length true })] _ _ (.inr rfl) (by kernel_rfl) (leaveA_of (seal_tupR (seal_deep rfl hv2 rfl rfl (sealVL_clean _ _ _ hcl3) rfl hcl3 rfl rfl rfl rfl rfl hsl2 (Nat.le_of_ble_eq_true rfl)) rfl) rfl rfl) ?_)
    conv => whnf
    (rw [show tightA (some ns.length) ns.length = true from decide_eq_true rfl])
  · refine call_cleanE (fn := Try.f9) rfl Try.func9 rfl rfl hcl rfl rfl (Nat.le_of_ble_eq_true rfl) ?_
    intro End hE
    conv => whnf
    (refine runK_ret (ev_box rfl hone2) ?_)
    conv => whnf
    with_reducible refine ⟨_, _, cT _, ?_⟩
    conv => whnf
    (refine ⟨by kernel_rfl, ?_⟩)
    conv => whnf
    (refine runK_ret (ev_box rfl hone2) ?_)
    conv => whnf
    (refine listK_of (if_pos (Nat.le_trans (Nat.le_of_eq htop3) (Nat.zero_le _))) ?_)
    conv => whnf
    (refine ⟨by kernel_rfl, ?_⟩)
    conv => whnf
    (refine call_raw (fn := Try.f31) rfl Try.func31 rfl rfl (Nat.le_of_ble_eq_true rfl) ?_)
    conv => whnf
    (refine ⟨by kernel_rfl, ?_⟩)
    conv => whnf
    with_reducible refine ⟨_, _, cD _ _, ?_⟩
    conv => whnf
    with_reducible refine ⟨_, _, cK _ _, ?_⟩
    conv => whnf
    with_reducible refine ⟨_, _, cN _ _, ?_⟩
    conv => whnf
    ((with_reducible cases z0 : nanoOk sn) <;> try exact Bool.noConfusion (Eq.trans (Eq.symm z0) hno))
    conv => whnf
    with_reducible refine ⟨_, _, cF _ _, ?_⟩
    conv => whnf
    (refine call_inline (fn := Try.f57) rfl Try.func57 rfl rfl ?_)
    conv => whnf
    (refine call_inline (fn := Try.f68) rfl Try.func68 rfl rfl ?_)
    conv => whnf
    with_reducible refine ⟨_, _, cA _ _ _, ?_⟩
    conv => whnf
    (refine ⟨by kernel_rfl, ?_⟩)
    conv => whnf
    (refine ⟨by kernel_rfl, ?_⟩)
    conv => whnf
    (refine call_inline (fn := Try.f69) rfl Try.func69 rfl rfl ?_)
    conv => whnf
    (refine runK_ret (ev_indexSl (sz := 25) rfl rfl rfl rfl hn0 hn2) ?_)
    conv => whnf
    (refine runK_ret (ev_loadV (z := 1) (v := .int .u32 x.kind) rfl rfl rfl ((nodesA_cell hmx 0 (by decide)).trans rfl)) ?_)
    conv => whnf
    (refine ⟨by kernel_rfl, ?_⟩)
    conv => whnf
    ((with_reducible cases z1 : x.kind == Int.ofNat 2) <;> try exact Bool.noConfusion (Eq.trans (Eq.symm z1) hk))
    conv => whnf
    (refine call_inline (fn := Try.f69) rfl Try.func69 rfl rfl ?_)
    conv => whnf
    (refine runK_ret (ev_indexSl (sz := 25) rfl rfl rfl rfl hn0 hn2) ?_)
    conv => whnf
    (refine runK_ret (ev_loadV (z := 1) (v := .int .u32 x.kind) rfl rfl rfl ((nodesA_cell hmx 0 (by decide)).trans rfl)) ?_)
    conv => whnf
    (refine ⟨by kernel_rfl, ?_⟩)
    conv => whnf
    ((with_reducible cases z2 : x.kind == Int.ofNat 5) <;> try exact Bool.noConfusion (Eq.trans (Eq.symm z2) hk5))
    conv => whnf
    with_reducible refine ⟨_, _, cM _ _ _, ?_⟩
    conv => whnf
    (refine ⟨by kernel_rfl, ?_⟩)
    conv => whnf
    ((with_reducible cases z3 : my) <;> try exact Bool.noConfusion (Eq.trans (Eq.symm z3) hmay))
    conv => whnf
    with_reducible refine ⟨_, _, cO _ _ _, ?_⟩
    conv => whnf
    (refine ⟨by kernel_rfl, ?_⟩)
    conv => whnf
    (refine ⟨by kernel_rfl, ?_⟩)
    conv => whnf
    ((with_reducible cases z4 : ow) <;> try exact Bool.noConfusion (Eq.trans (Eq.symm z4) howns))
    conv => whnf
    (refine runK_ret (ev_indexSl (sz := 25) rfl rfl rfl rfl hn0 hn2) ?_)
    conv => whnf
    (refine runK_ret (ev_loadV (z := 1) rfl rfl rfl ((nodesA_cell hmx 12 (by decide)).trans hdA)) ?_)
    conv => whnf
    (refine ⟨by kernel_rfl, ?_⟩)
    conv => whnf
    (refine runK_ret (hs1 rfl rfl) ?_)
    conv => whnf
    (refine runK_ret (hs2 rfl rfl) ?_)
    conv => whnf
    with_reducible refine ⟨_, _, kb1 _ _ _ _, ?_⟩
    conv => whnf
    with_reducible refine ⟨_, _, kb4 _ _ _ _, ?_⟩
    conv => whnf
    (refine twinL_K (m + 26) 57 _ (ns.map cloneN) true gen hok2 (by rw [hml]; exact hlen) hne2 _ _ _ _ _ _ _ _ _ _ _ _ _ _ _ _ _ _ _ _ _ _ _ _ _ _ _ _ _ _ _ _ _ _ _ _ _ _ _ _ _ _ _ _ _ _ _ _ _ _ _ _ _ _ _ _ _ _ _ _ _ _ _ _ _ _ _ ns.length hml rfl ?_; intro L' hL'; obtain rfl : L = L' := hL.trans hL'.symm; clear hL')
    conv => whnf
    (refine runK_ret (ev_indexRsl (sz := 25) rfl rfl rfl rfl hn0 hn2) ?_)
    conv => whnf
    (refine runK_if ⟨hv1, rfl, hfit, .inl rfl⟩ (runK_ret rfl ?_))
    conv => whnf
    (refine listK_of (splice_nodes0 (k := 6) (x' := ({ cloneN (cloneN x) with rs := ss, rn := sn } : NodeS)) hLx (Nat.le_of_ble_eq_true rfl) rfl) ?_)
    conv => whnf
    (refine ⟨by kernel_rfl, ?_⟩)
    conv => whnf
    (refine call_inline (fn := Try.f53) rfl Try.func53 rfl rfl ?_)
    conv => whnf
    (refine call_inline (fn := Try.f68) rfl Try.func68 rfl rfl ?_)
    conv => whnf
    (refine ⟨_, _, call_lend rfl rfl (lend_tree2 (l := L.set n.toNat ({ cloneN (cloneN x) with rs := ss, rn := sn } : NodeS)) rfl hv2 hLok hXl rfl) rfl rfl (cA3 _ _ _), ?_⟩)
    conv => whnf
    (refine ⟨by kernel_rfl, ?_⟩)
    conv => whnf
    (refine ⟨by kernel_rfl, ?_⟩)
    conv => whnf
    (refine hE _ _ [(.agg [.rsl 70 0 ns.length (some ns.length) ((nodesA (ns.map cloneN)).length + 1), .int .u32 gen]), .agg (ansA 6 { stat := 0, ha := true, at_ := [.int .u32 x.kind, .int .u32 x.mode, .int .u32 lk, .int .u32 x.user, .int .u32 x.group, .int .u64 (IntKind.wrap .u64 (sizeS ({ x with rs := ss, rn := sn } : NodeS))), .int .u64 (IntKind.wrap .u64 (sizeS ({ x with rs := ss, rn := sn } : NodeS))), .int .u64 idn, .int .u32 ss, .int .u32 sn, .int .u32 x.ws, .int .u32 x.wn, .int .u32 x.ts, .int .u32 x.tn], count := IntKind.wrap .u32 (if (32768 : Int) < (if IntKind.wrap .u64 cnt < IntKind.wrap .u64 (rest.length : Int) then IntKind.wrap .u64 cnt else IntKind.wrap .u64 (rest.length : Int)) then 32768 else (if IntKind.wrap .u64 cnt < IntKind.wrap .u64 (rest.length : Int) then IntKind.wrap .u64 cnt else IntKind.wrap .u64 (rest.length : Int))), en := (if (32768 : Int) < (if IntKind.wrap .u64 cnt < IntKind.wrap .u64 (rest.length : Int) then IntKind.wrap .u64 cnt else IntKind.wrap .u64 (rest.length : Int)) then 32768 else (if IntKind.wrap .u64 cnt < IntKind.wrap .u64 (rest.length : Int) then IntKind.wrap .u64 cnt else IntKind.wrap .u64 (rest.length : Int))) == IntKind.wrap .u64 (rest.length : Int), data := .sl (numsA .u8 (da0 :: dr)) (da0 :: dr).length true })] _ _ (.inr rfl) (by kernel_rfl) (leaveA_of (seal_tupR (seal_deep rfl hv2 rfl rfl (sealVL_clean _ _ _ hcl3) rfl hcl3 rfl rfl rfl rfl rfl hsl2 (Nat.le_of_ble_eq_true rfl)) rfl) rfl rfl) ?_)
    conv => whnf
    (rw [show tightA (some ns.length) ns.length = true from decide_eq_true rfl])
end Go.Proofs.Ytnkeijebkpjdgaa.Ab
