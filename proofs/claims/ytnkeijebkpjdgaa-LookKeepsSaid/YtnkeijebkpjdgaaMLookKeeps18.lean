import Derived.Test.YtnkeijebkpjdgaaMLookKeeps15
import Derived.Test.YtnkeijebkpjdgaaMLookKeeps16
import Derived.Test.YtnkeijebkpjdgaaMLookKeeps17
import Derived.Test.YtnkeijebkpjdgaaMLookKeeps14
set_option linter.unusedVariables false
set_option linter.unusedSimpArgs false
/- Over the engine: a tree in memory of its own. -/
namespace Go.Proofs.Ytnkeijebkpjdgaa.Ab
open Go Go.RowKit

set_option maxRecDepth 100000
section
variable {P : Program} {flat : TypeId → Option (List Nat)} {nid : Nat} {ρ : Operand → AV}
theorem ev_clipR {t e : TypeId} {sz n b ver : Nat} {a hi mx : Operand} {k k' : IntKind} (ht : P.underlying t = some (.slice e)) (hs : szOf P e = some sz) (ha : ρ a = .rsl b 0 n none ver) (hh : ρ hi = .int k n) (hm : ρ mx = .int k' n) :
    evOp P flat nid (.slice t a none (some hi) (some mx)) ρ = .ret (.rsl b 0 n (some n) ver, .none) := by
  have h1 : 0 ≤ (n : Int) ∧ (n : Int) ≤ n := ⟨by omega, Int.le_refl _⟩
  simp only [evOp, sliceA, ht, ha, hs, Option.map_some, Option.map_none, boundsA, boundA, hh, hm, Option.getD_none]
  rw [if_pos h1]
  simp only [Int.toNat_natCast]
  rw [if_pos h1]
  simp [capS]
end
theorem seal_agg1 {d : List AB → List AV → List AV × List AB} {bs bs' : List AB} {v v' : AV} {k : IntKind} {g : Int} (h : sealV d bs v = (v', bs')) : sealV d bs (.agg [v, .int k g]) = (.agg [v', .int k g], bs') := by
  simp only [sealV, sealVL, h]
set_option maxHeartbeats 8000000 in
theorem twinL_c (m : Nat) (h : H) (ns : List NodeS) (t : Bool) (gen : Int) (hok : ∀ x ∈ ns, x.fit) (hlen : ns.length ≤ 1025) (hlen2 : ns ≠ []) :
    evCall TE (m + 2) 9 (.fn 30 [] []) [.agg [.sl (nodesA ns) ns.length t, .int .u32 gen]] h = some (.ret (.agg [.sl (nodesA (ns.map cloneN)) ns.length true, .int .u32 gen]), h) := by
  have kb1 : ∀ (f : FuncId) (h : H) (a : Int) (l : List Int) (t : Bool), (a :: l).length ≤ 140737488351232 → (evAll TE (m + 1)).1 f (.fn 50 [] []) [.sl (numsA .u8 (a :: l)) (a :: l).length t] h = some (.ret (.sl (numsA .u8 (a :: l)) (a :: l).length false), h) := fun f h a l t hl => bytesClone_c m f h a l t (by omega)
  have kb2 : ∀ (f : FuncId) (h : H) (t : Bool), (evAll TE (m + 1)).1 f (.fn 50 [] []) [.sl [] 0 t] h = some (.ret (.sl [] 0 true), h) := fun f h t => bytesClone_0 m f h t
  have kb3 : ∀ (f : FuncId) (h : H), (evAll TE (m + 1)).1 f (.fn 50 [] []) [.sl0] h = some (.ret .sl0, h) := fun f h => bytesClone_nil m f h
  have kb4 : ∀ (f : FuncId) (h : H) (l : List Int) (t : Bool), (evAll TE (m + 1)).1 f (.fn 49 [] []) [.sl (numsA .u8 l) l.length t] h = some (.ret (.sl (numsA .u8 l) l.length true), h) := fun f h l t => bytesClip_c m f h l t
  have kb5 : ∀ (f : FuncId) (h : H) (t : Bool), (evAll TE (m + 1)).1 f (.fn 49 [] []) [.sl [] 0 t] h = some (.ret (.sl [] 0 true), h) := fun f h t => bytesClip_0 m f h t
  have kb6 : ∀ (f : FuncId) (h : H), (evAll TE (m + 1)).1 f (.fn 49 [] []) [.sl0] h = some (.ret .sl0, h) := fun f h => bytesClip_nil m f h
  have ke1 : ∀ (f : FuncId) (h : H) (a : EntryS) (l : List EntryS) (t : Bool), (a :: l).length * 32 ≤ 140737488351232 → (evAll TE (m + 1)).1 f (.fn 52 [] []) [.sl (entriesA (a :: l)) (a :: l).length t] h = some (.ret (.sl (entriesA (a :: l)) (a :: l).length false), h) := fun f h a l t hl => entsClone_c m f h a l t (by omega)
  have ke2 : ∀ (f : FuncId) (h : H) (t : Bool), (evAll TE (m + 1)).1 f (.fn 52 [] []) [.sl [] 0 t] h = some (.ret (.sl [] 0 true), h) := fun f h t => entsClone_0 m f h t
  have ke3 : ∀ (f : FuncId) (h : H), (evAll TE (m + 1)).1 f (.fn 52 [] []) [.sl0] h = some (.ret .sl0, h) := fun f h => entsClone_nil m f h
  have ke4 : ∀ (f : FuncId) (h : H) (l : List EntryS) (t : Bool), (evAll TE (m + 1)).1 f (.fn 51 [] []) [.sl (entriesA l) l.length t] h = some (.ret (.sl (entriesA l) l.length true), h) := fun f h l t => entsClip_c m f h l t
  have ke5 : ∀ (f : FuncId) (h : H) (t : Bool), (evAll TE (m + 1)).1 f (.fn 51 [] []) [.sl [] 0 t] h = some (.ret (.sl [] 0 true), h) := fun f h t => entsClip_0 m f h t
  have ke6 : ∀ (f : FuncId) (h : H), (evAll TE (m + 1)).1 f (.fn 51 [] []) [.sl0] h = some (.ret .sl0, h) := fun f h => entsClip_nil m f h
  have hnl : 0 < ns.length := List.length_pos_iff.2 hlen2
  have hle : (ns.length : Int) ≤ ns.length := Int.le_refl _
  have hle0 : (0 : Int) ≤ ns.length := by omega
  refine call_cleanE (fn := Try.f30) rfl Try.func30 rfl rfl rfl rfl rfl (Nat.le_of_ble_eq_true rfl) ?_
  intro End hE
  conv => whnf
  (refine call_raw (fn := Try.f48) rfl Try.func48 rfl rfl (Nat.le_of_ble_eq_true rfl) ?_)
  conv => whnf
  (refine runK_append_new (sz := 25) (by_ := 144) rfl rfl rfl rfl rfl rfl rfl rfl rfl hnl (nodesA_len ns) (by omega) (by omega) (by decide) rfl ?_)
  conv => whnf
  (refine call_raw (fn := Try.f47) rfl Try.func47 rfl rfl (Nat.le_of_ble_eq_true rfl) ?_)
  conv => whnf
  (refine runK_ret (ev_clipR (sz := 25) rfl rfl rfl rfl rfl) ?_)
  conv => whnf
  refine ⟨ns.length + 1, by show ns.length + 1 ≤ 4611686018427387904; omega, ?_⟩
  refine rounds_at (fun s (a : Int × List NodeS) => ⟨RG.of 38 [(13, .int .i64 a.1), (12, .int .i64 ns.length), (11, .rsl 3 0 ns.length (some ns.length) ((nodesA ns).length + 1)), (2, .ref 1 0 0), (1, .ref 0 0 0)], ⟨s.h.bs.set 3 (.cells (nodesA a.2) ⟨false, 25, true, true⟩), s.h.esc⟩⟩) (fun a => 0 ≤ a.1 ∧ a.1 ≤ ns.length ∧ a.2 = midN ns a.1.toNat) (fun a => (ns.length - a.1).toNat) _ (0, ns) ⟨by simp only; omega, by simp only; omega, (midN_zero ns).symm⟩ (by show ((ns.length : Int) - 0).toNat < ns.length + 1; omega) (by kernel_rfl) ?_
  intro a m' hI ih
  obtain ⟨i, l⟩ := a
  dsimp only at hI ih ⊢
  obtain ⟨hI0, hI1, hI2⟩ := hI
  have hll : l.length = ns.length := by rw [hI2, midN_len]
  have hvv : ((nodesA ns).length + 1) = (nodesA l).length + 1 := by rw [nodesA_len, nodesA_len, hll]
  conv => whnf
  cases h1 : decide (i < (ns.length : Int)) with
  | false =>
    have h1 := of_decide_eq_false h1
    rw [midN_all ns (by omega)] at hI2
    have hLl : (nodesA l).length = ns.length * 25 := by rw [nodesA_len, hll]
    have hcl : cleanL (nodesA l) = true := by
      rw [hI2]
      refine nodesA_clean fun z hz => ?_
      obtain ⟨y, hy, rfl⟩ := List.mem_map.1 hz
      exact ⟨row_clean (bytesC_ok (hok y hy).1.1), ents_clean (entsC_ok (hok y hy).1.2)⟩
    clear ih
    conv => whnf
    (refine hE _ _ [.agg [.rsl 3 0 ns.length (some ns.length) ((nodesA ns).length + 1), .int .u32 gen]] _ _ (.inr rfl) (by kernel_rfl) (leaveA_of (seal_agg1 (seal_deep rfl hvv rfl rfl (sealVL_clean _ _ _ hcl) rfl hcl rfl rfl rfl rfl rfl hLl (Nat.le_of_ble_eq_true rfl))) rfl rfl) ?_)
    conv => whnf
    (simp only [tightA, decide_true, hI2])
  | true =>
    have h1 := of_decide_eq_true h1
    have h3 : i.toNat < ns.length := by omega
    obtain ⟨x, hx⟩ : ∃ x, ns[i.toNat]? = some x := ⟨_, List.getElem?_eq_getElem h3⟩
    have hxl : l[i.toNat]? = some x := by rw [hI2]; exact midN_get hx
    have hw : IntKind.wrap .i64 (i + 1) = i + 1 := wrap64 (by omega) (by omega)
    have hmu : (ns.length - IntKind.wrap .i64 (i + 1)).toNat < (ns.length - i).toNat := by rw [hw]; omega
    have hst : 0 ≤ IntKind.wrap .i64 (i + 1) ∧ IntKind.wrap .i64 (i + 1) ≤ ns.length ∧ l.set i.toNat (cloneN x) = midN ns (IntKind.wrap .i64 (i + 1)).toNat := by
      rw [hw, show (i + 1).toNat = i.toNat + 1 by omega, hI2]
      exact ⟨by omega, by omega, midN_set hx⟩
    have hst2 : ∀ y, 0 ≤ IntKind.wrap .i64 (i + 1) ∧ IntKind.wrap .i64 (i + 1) ≤ ns.length ∧ (l.set i.toNat y).set i.toNat (cloneN x) = midN ns (IntKind.wrap .i64 (i + 1)).toNat := fun y => by
      rw [List.set_set]
      exact hst
    have hget : ∀ y, (l.set i.toNat y)[i.toNat]? = some y := fun y => by rw [List.getElem?_set_self (by omega)]
    have hlen2 : ∀ y, (l.set i.toNat y).length = ns.length := fun y => by rw [List.length_set, hll]
    have hvv2 : ∀ y, ((nodesA ns).length + 1) = (nodesA (l.set i.toNat y)).length + 1 := fun y => by rw [nodesA_len, nodesA_len, hlen2]
    have hf1 : 0 + i.toNat * 25 + 12 + 1 ≤ (nodesA l).length := by rw [nodesA_len]; omega
    have hf2 : ∀ y, 0 + i.toNat * 25 + 22 + 1 ≤ (nodesA (l.set i.toNat y)).length := fun y => by rw [nodesA_len, hlen2]; omega
    have hc1 : 0 + i.toNat * 25 + 25 ≤ (nodesA l).length := by rw [nodesA_len]; omega
    have hd1 : ((nodesA l).drop (0 + i.toNat * 25)).take 25 = nodeA x := by rw [Nat.zero_add]; exact nodesA_node hxl
    obtain ⟨hxo, hxr⟩ := hok x (List.mem_of_getElem? hx)
    have hb1 := hxr.1
    have hb2 := hxr.2
    clear hxr hok hI2
    obtain ⟨kd, ge, mo, us, ng, li, xrs, xrn, xws, xwn, ts, tn, da, by_, vf, ta, ls, es, pa, nx⟩ := x
    obtain ⟨hd3, hd4⟩ := hxo
    dsimp only at hb1 hb2
    unfold nodeA at hd1
    dsimp only at hd1
    rcases bytes_three hd3 with ⟨rfl, rfl⟩ | ⟨dt, rfl, rfl⟩ | ⟨da, dr, dt, rfl, rfl⟩ <;> rcases ents_three hd4 with ⟨rfl, rfl⟩ | ⟨lt, rfl, rfl⟩ | ⟨la, lr, lt, rfl, rfl⟩
    · conv => whnf
      (refine runK_ret (ev_indexRsl (sz := 25) rfl rfl rfl rfl hI0 h1) ?_)
      conv => whnf
      (refine runK_if hvv (runK_cells rfl hc1 hd1 (runK_ret rfl ?_)))
      conv => whnf
      with_reducible refine ⟨_, _, kb3 _ _, ?_⟩
      conv => whnf
      (refine ⟨by kernel_rfl, ?_⟩)
      conv => whnf
      with_reducible refine ⟨_, _, kb6 _ _, ?_⟩
      conv => whnf
      (refine ⟨by kernel_rfl, ?_⟩)
      conv => whnf
      with_reducible refine ⟨_, _, ke3 _ _, ?_⟩
      conv => whnf
      (refine ⟨by kernel_rfl, ?_⟩)
      conv => whnf
      with_reducible refine ⟨_, _, ke6 _ _, ?_⟩
      conv => whnf
      (refine ⟨by kernel_rfl, ?_⟩)
      conv => whnf
      (refine runK_ret (ev_indexRsl (sz := 25) rfl rfl rfl rfl hI0 h1) ?_)
      conv => whnf
      (refine runK_if ⟨hvv, rfl, hf1, .inl rfl⟩ (runK_ret rfl ?_))
      conv => whnf
      (refine listK_of (splice_nodes0 (k := 12) (x' := (⟨kd, ge, mo, us, ng, li, xrs, xrn, xws, xwn, ts, tn, .sl0, [], vf, ta, .sl0, [], pa, nx⟩ : NodeS)) hxl (Nat.le_of_ble_eq_true rfl) rfl) ?_)
      conv => whnf
      (refine runK_ret (ev_indexRsl (sz := 25) rfl rfl rfl rfl hI0 h1) ?_)
      conv => whnf
      (refine runK_if ⟨hvv2 (⟨kd, ge, mo, us, ng, li, xrs, xrn, xws, xwn, ts, tn, .sl0, [], vf, ta, .sl0, [], pa, nx⟩ : NodeS), rfl, hf2 (⟨kd, ge, mo, us, ng, li, xrs, xrn, xws, xwn, ts, tn, .sl0, [], vf, ta, .sl0, [], pa, nx⟩ : NodeS), .inl rfl⟩ (runK_ret rfl ?_))
      conv => whnf
      (refine listK_of (splice_nodes0 (k := 22) (x' := (⟨kd, ge, mo, us, ng, li, xrs, xrn, xws, xwn, ts, tn, .sl0, [], vf, ta, .sl0, [], pa, nx⟩ : NodeS)) (hget _) (Nat.le_of_ble_eq_true rfl) rfl) ?_)
      conv => whnf
      (refine ⟨by kernel_rfl, ?_⟩)
      conv => whnf
      (exact ih (IntKind.wrap .i64 (i + 1), _) _ (hst2 (⟨kd, ge, mo, us, ng, li, xrs, xrn, xws, xwn, ts, tn, .sl0, [], vf, ta, .sl0, [], pa, nx⟩ : NodeS)) hmu (by kernel_rfl))
    · conv => whnf
      (refine runK_ret (ev_indexRsl (sz := 25) rfl rfl rfl rfl hI0 h1) ?_)
      conv => whnf
      (refine runK_if hvv (runK_cells rfl hc1 hd1 (runK_ret rfl ?_)))
      conv => whnf
      with_reducible refine ⟨_, _, kb3 _ _, ?_⟩
      conv => whnf
      (refine ⟨by kernel_rfl, ?_⟩)
      conv => whnf
      with_reducible refine ⟨_, _, kb6 _ _, ?_⟩
      conv => whnf
      (refine ⟨by kernel_rfl, ?_⟩)
      conv => whnf
      with_reducible refine ⟨_, _, ke2 _ _ _, ?_⟩
      conv => whnf
      (refine ⟨by kernel_rfl, ?_⟩)
      conv => whnf
      with_reducible refine ⟨_, _, ke5 _ _ _, ?_⟩
      conv => whnf
      (refine ⟨by kernel_rfl, ?_⟩)
      conv => whnf
      (refine runK_ret (ev_indexRsl (sz := 25) rfl rfl rfl rfl hI0 h1) ?_)
      conv => whnf
      (refine runK_if ⟨hvv, rfl, hf1, .inl rfl⟩ (runK_ret rfl ?_))
      conv => whnf
      (refine listK_of (splice_nodes0 (k := 12) (x' := (⟨kd, ge, mo, us, ng, li, xrs, xrn, xws, xwn, ts, tn, .sl0, [], vf, ta, .sl [] 0 lt, [], pa, nx⟩ : NodeS)) hxl (Nat.le_of_ble_eq_true rfl) rfl) ?_)
      conv => whnf
      (refine runK_ret (ev_indexRsl (sz := 25) rfl rfl rfl rfl hI0 h1) ?_)
      conv => whnf
      (refine runK_if ⟨hvv2 (⟨kd, ge, mo, us, ng, li, xrs, xrn, xws, xwn, ts, tn, .sl0, [], vf, ta, .sl [] 0 lt, [], pa, nx⟩ : NodeS), rfl, hf2 (⟨kd, ge, mo, us, ng, li, xrs, xrn, xws, xwn, ts, tn, .sl0, [], vf, ta, .sl [] 0 lt, [], pa, nx⟩ : NodeS), .inl rfl⟩ (runK_ret rfl ?_))
      conv => whnf
      (refine listK_of (splice_nodes0 (k := 22) (x' := (⟨kd, ge, mo, us, ng, li, xrs, xrn, xws, xwn, ts, tn, .sl0, [], vf, ta, .sl [] 0 true, [], pa, nx⟩ : NodeS)) (hget _) (Nat.le_of_ble_eq_true rfl) rfl) ?_)
      conv => whnf
      (refine ⟨by kernel_rfl, ?_⟩)
      conv => whnf
      (exact ih (IntKind.wrap .i64 (i + 1), _) _ (hst2 (⟨kd, ge, mo, us, ng, li, xrs, xrn, xws, xwn, ts, tn, .sl0, [], vf, ta, .sl [] 0 lt, [], pa, nx⟩ : NodeS)) hmu (by kernel_rfl))
    · conv => whnf
      (refine runK_ret (ev_indexRsl (sz := 25) rfl rfl rfl rfl hI0 h1) ?_)
      conv => whnf
      (refine runK_if hvv (runK_cells rfl hc1 hd1 (runK_ret rfl ?_)))
      conv => whnf
      with_reducible refine ⟨_, _, kb3 _ _, ?_⟩
      conv => whnf
      (refine ⟨by kernel_rfl, ?_⟩)
      conv => whnf
      with_reducible refine ⟨_, _, kb6 _ _, ?_⟩
      conv => whnf
      (refine ⟨by kernel_rfl, ?_⟩)
      conv => whnf
      with_reducible refine ⟨_, _, ke1 _ _ _ _ _ hb2, ?_⟩
      conv => whnf
      (refine ⟨by kernel_rfl, ?_⟩)
      conv => whnf
      with_reducible refine ⟨_, _, ke4 _ _ _ _, ?_⟩
      conv => whnf
      (refine ⟨by kernel_rfl, ?_⟩)
      conv => whnf
      (refine runK_ret (ev_indexRsl (sz := 25) rfl rfl rfl rfl hI0 h1) ?_)
      conv => whnf
      (refine runK_if ⟨hvv, rfl, hf1, .inl rfl⟩ (runK_ret rfl ?_))
      conv => whnf
      (refine listK_of (splice_nodes0 (k := 12) (x' := (⟨kd, ge, mo, us, ng, li, xrs, xrn, xws, xwn, ts, tn, .sl0, [], vf, ta, .sl (entriesA (la :: lr)) (la :: lr).length lt, la :: lr, pa, nx⟩ : NodeS)) hxl (Nat.le_of_ble_eq_true rfl) rfl) ?_)
      conv => whnf
      (refine runK_ret (ev_indexRsl (sz := 25) rfl rfl rfl rfl hI0 h1) ?_)
      conv => whnf
      (refine runK_if ⟨hvv2 (⟨kd, ge, mo, us, ng, li, xrs, xrn, xws, xwn, ts, tn, .sl0, [], vf, ta, .sl (entriesA (la :: lr)) (la :: lr).length lt, la :: lr, pa, nx⟩ : NodeS), rfl, hf2 (⟨kd, ge, mo, us, ng, li, xrs, xrn, xws, xwn, ts, tn, .sl0, [], vf, ta, .sl (entriesA (la :: lr)) (la :: lr).length lt, la :: lr, pa, nx⟩ : NodeS), .inl rfl⟩ (runK_ret rfl ?_))
      conv => whnf
      (refine listK_of (splice_nodes0 (k := 22) (x' := (⟨kd, ge, mo, us, ng, li, xrs, xrn, xws, xwn, ts, tn, .sl0, [], vf, ta, .sl (entriesA (la :: lr)) (la :: lr).length true, la :: lr, pa, nx⟩ : NodeS)) (hget _) (Nat.le_of_ble_eq_true rfl) rfl) ?_)
      conv => whnf
      (refine ⟨by kernel_rfl, ?_⟩)
      conv => whnf
      (exact ih (IntKind.wrap .i64 (i + 1), _) _ (hst2 (⟨kd, ge, mo, us, ng, li, xrs, xrn, xws, xwn, ts, tn, .sl0, [], vf, ta, .sl (entriesA (la :: lr)) (la :: lr).length lt, la :: lr, pa, nx⟩ : NodeS)) hmu (by kernel_rfl))
    · conv => whnf
      (refine runK_ret (ev_indexRsl (sz := 25) rfl rfl rfl rfl hI0 h1) ?_)
      conv => whnf
      (refine runK_if hvv (runK_cells rfl hc1 hd1 (runK_ret rfl ?_)))
      conv => whnf
      with_reducible refine ⟨_, _, kb2 _ _ _, ?_⟩
      conv => whnf
      (refine ⟨by kernel_rfl, ?_⟩)
      conv => whnf
      with_reducible refine ⟨_, _, kb5 _ _ _, ?_⟩
      conv => whnf
      (refine ⟨by kernel_rfl, ?_⟩)
      conv => whnf
      with_reducible refine ⟨_, _, ke3 _ _, ?_⟩
      conv => whnf
      (refine ⟨by kernel_rfl, ?_⟩)
      conv => whnf
      with_reducible refine ⟨_, _, ke6 _ _, ?_⟩
      conv => whnf
      (refine ⟨by kernel_rfl, ?_⟩)
      conv => whnf
      (refine runK_ret (ev_indexRsl (sz := 25) rfl rfl rfl rfl hI0 h1) ?_)
      conv => whnf
      (refine runK_if ⟨hvv, rfl, hf1, .inl rfl⟩ (runK_ret rfl ?_))
      conv => whnf
      (refine listK_of (splice_nodes0 (k := 12) (x' := (⟨kd, ge, mo, us, ng, li, xrs, xrn, xws, xwn, ts, tn, .sl [] 0 true, [], vf, ta, .sl0, [], pa, nx⟩ : NodeS)) hxl (Nat.le_of_ble_eq_true rfl) rfl) ?_)
      conv => whnf
      (refine runK_ret (ev_indexRsl (sz := 25) rfl rfl rfl rfl hI0 h1) ?_)
      conv => whnf
      (refine runK_if ⟨hvv2 (⟨kd, ge, mo, us, ng, li, xrs, xrn, xws, xwn, ts, tn, .sl [] 0 true, [], vf, ta, .sl0, [], pa, nx⟩ : NodeS), rfl, hf2 (⟨kd, ge, mo, us, ng, li, xrs, xrn, xws, xwn, ts, tn, .sl [] 0 true, [], vf, ta, .sl0, [], pa, nx⟩ : NodeS), .inl rfl⟩ (runK_ret rfl ?_))
      conv => whnf
      (refine listK_of (splice_nodes0 (k := 22) (x' := (⟨kd, ge, mo, us, ng, li, xrs, xrn, xws, xwn, ts, tn, .sl [] 0 true, [], vf, ta, .sl0, [], pa, nx⟩ : NodeS)) (hget _) (Nat.le_of_ble_eq_true rfl) rfl) ?_)
      conv => whnf
      (refine ⟨by kernel_rfl, ?_⟩)
      conv => whnf
      (exact ih (IntKind.wrap .i64 (i + 1), _) _ (hst2 (⟨kd, ge, mo, us, ng, li, xrs, xrn, xws, xwn, ts, tn, .sl [] 0 true, [], vf, ta, .sl0, [], pa, nx⟩ : NodeS)) hmu (by kernel_rfl))
    · conv => whnf
      (refine runK_ret (ev_indexRsl (sz := 25) rfl rfl rfl rfl hI0 h1) ?_)
      conv => whnf
      (refine runK_if hvv (runK_cells rfl hc1 hd1 (runK_ret rfl ?_)))
      conv => whnf
      with_reducible refine ⟨_, _, kb2 _ _ _, ?_⟩
      conv => whnf
      (refine ⟨by kernel_rfl, ?_⟩)
      conv => whnf
      with_reducible refine ⟨_, _, kb5 _ _ _, ?_⟩
      conv => whnf
      (refine ⟨by kernel_rfl, ?_⟩)
      conv => whnf
      with_reducible refine ⟨_, _, ke2 _ _ _, ?_⟩
      conv => whnf
      (refine ⟨by kernel_rfl, ?_⟩)
      conv => whnf
      with_reducible refine ⟨_, _, ke5 _ _ _, ?_⟩
      conv => whnf
      (refine ⟨by kernel_rfl, ?_⟩)
      conv => whnf
      (refine runK_ret (ev_indexRsl (sz := 25) rfl rfl rfl rfl hI0 h1) ?_)
      conv => whnf
      (refine runK_if ⟨hvv, rfl, hf1, .inl rfl⟩ (runK_ret rfl ?_))
      conv => whnf
      (refine listK_of (splice_nodes0 (k := 12) (x' := (⟨kd, ge, mo, us, ng, li, xrs, xrn, xws, xwn, ts, tn, .sl [] 0 true, [], vf, ta, .sl [] 0 lt, [], pa, nx⟩ : NodeS)) hxl (Nat.le_of_ble_eq_true rfl) rfl) ?_)
      conv => whnf
      (refine runK_ret (ev_indexRsl (sz := 25) rfl rfl rfl rfl hI0 h1) ?_)
      conv => whnf
      (refine runK_if ⟨hvv2 (⟨kd, ge, mo, us, ng, li, xrs, xrn, xws, xwn, ts, tn, .sl [] 0 true, [], vf, ta, .sl [] 0 lt, [], pa, nx⟩ : NodeS), rfl, hf2 (⟨kd, ge, mo, us, ng, li, xrs, xrn, xws, xwn, ts, tn, .sl [] 0 true, [], vf, ta, .sl [] 0 lt, [], pa, nx⟩ : NodeS), .inl rfl⟩ (runK_ret rfl ?_))
      conv => whnf
      (refine listK_of (splice_nodes0 (k := 22) (x' := (⟨kd, ge, mo, us, ng, li, xrs, xrn, xws, xwn, ts, tn, .sl [] 0 true, [], vf, ta, .sl [] 0 true, [], pa, nx⟩ : NodeS)) (hget _) (Nat.le_of_ble_eq_true rfl) rfl) ?_)
      conv => whnf
      (refine ⟨by kernel_rfl, ?_⟩)
      conv => whnf
      (exact ih (IntKind.wrap .i64 (i + 1), _) _ (hst2 (⟨kd, ge, mo, us, ng, li, xrs, xrn, xws, xwn, ts, tn, .sl [] 0 true, [], vf, ta, .sl [] 0 lt, [], pa, nx⟩ : NodeS)) hmu (by kernel_rfl))
    · conv => whnf
      (refine runK_ret (ev_indexRsl (sz := 25) rfl rfl rfl rfl hI0 h1) ?_)
      conv => whnf
      (refine runK_if hvv (runK_cells rfl hc1 hd1 (runK_ret rfl ?_)))
      conv => whnf
      with_reducible refine ⟨_, _, kb2 _ _ _, ?_⟩
      conv => whnf
      (refine ⟨by kernel_rfl, ?_⟩)
      conv => whnf
      with_reducible refine ⟨_, _, kb5 _ _ _, ?_⟩
      conv => whnf
      (refine ⟨by kernel_rfl, ?_⟩)
      conv => whnf
      with_reducible refine ⟨_, _, ke1 _ _ _ _ _ hb2, ?_⟩
      conv => whnf
      (refine ⟨by kernel_rfl, ?_⟩)
      conv => whnf
      with_reducible refine ⟨_, _, ke4 _ _ _ _, ?_⟩
      conv => whnf
      (refine ⟨by kernel_rfl, ?_⟩)
      conv => whnf
      (refine runK_ret (ev_indexRsl (sz := 25) rfl rfl rfl rfl hI0 h1) ?_)
      conv => whnf
      (refine runK_if ⟨hvv, rfl, hf1, .inl rfl⟩ (runK_ret rfl ?_))
      conv => whnf
      (refine listK_of (splice_nodes0 (k := 12) (x' := (⟨kd, ge, mo, us, ng, li, xrs, xrn, xws, xwn, ts, tn, .sl [] 0 true, [], vf, ta, .sl (entriesA (la :: lr)) (la :: lr).length lt, la :: lr, pa, nx⟩ : NodeS)) hxl (Nat.le_of_ble_eq_true rfl) rfl) ?_)
      conv => whnf
      (refine runK_ret (ev_indexRsl (sz := 25) rfl rfl rfl rfl hI0 h1) ?_)
      conv => whnf
      (refine runK_if ⟨hvv2 (⟨kd, ge, mo, us, ng, li, xrs, xrn, xws, xwn, ts, tn, .sl [] 0 true, [], vf, ta, .sl (entriesA (la :: lr)) (la :: lr).length lt, la :: lr, pa, nx⟩ : NodeS), rfl, hf2 (⟨kd, ge, mo, us, ng, li, xrs, xrn, xws, xwn, ts, tn, .sl [] 0 true, [], vf, ta, .sl (entriesA (la :: lr)) (la :: lr).length lt, la :: lr, pa, nx⟩ : NodeS), .inl rfl⟩ (runK_ret rfl ?_))
      conv => whnf
      (refine listK_of (splice_nodes0 (k := 22) (x' := (⟨kd, ge, mo, us, ng, li, xrs, xrn, xws, xwn, ts, tn, .sl [] 0 true, [], vf, ta, .sl (entriesA (la :: lr)) (la :: lr).length true, la :: lr, pa, nx⟩ : NodeS)) (hget _) (Nat.le_of_ble_eq_true rfl) rfl) ?_)
      conv => whnf
      (refine ⟨by kernel_rfl, ?_⟩)
      conv => whnf
      (exact ih (IntKind.wrap .i64 (i + 1), _) _ (hst2 (⟨kd, ge, mo, us, ng, li, xrs, xrn, xws, xwn, ts, tn, .sl [] 0 true, [], vf, ta, .sl (entriesA (la :: lr)) (la :: lr).length lt, la :: lr, pa, nx⟩ : NodeS)) hmu (by kernel_rfl))
    · conv => whnf
      (refine runK_ret (ev_indexRsl (sz := 25) rfl rfl rfl rfl hI0 h1) ?_)
      conv => whnf
      (refine runK_if hvv (runK_cells rfl hc1 hd1 (runK_ret rfl ?_)))
      conv => whnf
      with_reducible refine ⟨_, _, kb1 _ _ _ _ _ hb1, ?_⟩
      conv => whnf
      (refine ⟨by kernel_rfl, ?_⟩)
      conv => whnf
      with_reducible refine ⟨_, _, kb4 _ _ _ _, ?_⟩
      conv => whnf
      (refine ⟨by kernel_rfl, ?_⟩)
      conv => whnf
      with_reducible refine ⟨_, _, ke3 _ _, ?_⟩
      conv => whnf
      (refine ⟨by kernel_rfl, ?_⟩)
      conv => whnf
      with_reducible refine ⟨_, _, ke6 _ _, ?_⟩
      conv => whnf
      (refine ⟨by kernel_rfl, ?_⟩)
      conv => whnf
      (refine runK_ret (ev_indexRsl (sz := 25) rfl rfl rfl rfl hI0 h1) ?_)
      conv => whnf
      (refine runK_if ⟨hvv, rfl, hf1, .inl rfl⟩ (runK_ret rfl ?_))
      conv => whnf
      (refine listK_of (splice_nodes0 (k := 12) (x' := (⟨kd, ge, mo, us, ng, li, xrs, xrn, xws, xwn, ts, tn, .sl (numsA .u8 (da :: dr)) (da :: dr).length true, da :: dr, vf, ta, .sl0, [], pa, nx⟩ : NodeS)) hxl (Nat.le_of_ble_eq_true rfl) rfl) ?_)
      conv => whnf
      (refine runK_ret (ev_indexRsl (sz := 25) rfl rfl rfl rfl hI0 h1) ?_)
      conv => whnf
      (refine runK_if ⟨hvv2 (⟨kd, ge, mo, us, ng, li, xrs, xrn, xws, xwn, ts, tn, .sl (numsA .u8 (da :: dr)) (da :: dr).length true, da :: dr, vf, ta, .sl0, [], pa, nx⟩ : NodeS), rfl, hf2 (⟨kd, ge, mo, us, ng, li, xrs, xrn, xws, xwn, ts, tn, .sl (numsA .u8 (da :: dr)) (da :: dr).length true, da :: dr, vf, ta, .sl0, [], pa, nx⟩ : NodeS), .inl rfl⟩ (runK_ret rfl ?_))
      conv => whnf
      (refine listK_of (splice_nodes0 (k := 22) (x' := (⟨kd, ge, mo, us, ng, li, xrs, xrn, xws, xwn, ts, tn, .sl (numsA .u8 (da :: dr)) (da :: dr).length true, da :: dr, vf, ta, .sl0, [], pa, nx⟩ : NodeS)) (hget _) (Nat.le_of_ble_eq_true rfl) rfl) ?_)
      conv => whnf
      (refine ⟨by kernel_rfl, ?_⟩)
      conv => whnf
      (exact ih (IntKind.wrap .i64 (i + 1), _) _ (hst2 (⟨kd, ge, mo, us, ng, li, xrs, xrn, xws, xwn, ts, tn, .sl (numsA .u8 (da :: dr)) (da :: dr).length true, da :: dr, vf, ta, .sl0, [], pa, nx⟩ : NodeS)) hmu (by kernel_rfl))
    · conv => whnf
      (refine runK_ret (ev_indexRsl (sz := 25) rfl rfl rfl rfl hI0 h1) ?_)
      conv => whnf
      (refine runK_if hvv (runK_cells rfl hc1 hd1 (runK_ret rfl ?_)))
      conv => whnf
      with_reducible refine ⟨_, _, kb1 _ _ _ _ _ hb1, ?_⟩
      conv => whnf
      (refine ⟨by kernel_rfl, ?_⟩)
      conv => whnf
      with_reducible refine ⟨_, _, kb4 _ _ _ _, ?_⟩
      conv => whnf
      (refine ⟨by kernel_rfl, ?_⟩)
      conv => whnf
      with_reducible refine ⟨_, _, ke2 _ _ _, ?_⟩
      conv => whnf
      (refine ⟨by kernel_rfl, ?_⟩)
      conv => whnf
      with_reducible refine ⟨_, _, ke5 _ _ _, ?_⟩
      conv => whnf
      (refine ⟨by kernel_rfl, ?_⟩)
      conv => whnf
      (refine runK_ret (ev_indexRsl (sz := 25) rfl rfl rfl rfl hI0 h1) ?_)
      conv => whnf
      (refine runK_if ⟨hvv, rfl, hf1, .inl rfl⟩ (runK_ret rfl ?_))
      conv => whnf
      (refine listK_of (splice_nodes0 (k := 12) (x' := (⟨kd, ge, mo, us, ng, li, xrs, xrn, xws, xwn, ts, tn, .sl (numsA .u8 (da :: dr)) (da :: dr).length true, da :: dr, vf, ta, .sl [] 0 lt, [], pa, nx⟩ : NodeS)) hxl (Nat.le_of_ble_eq_true rfl) rfl) ?_)
      conv => whnf
      (refine runK_ret (ev_indexRsl (sz := 25) rfl rfl rfl rfl hI0 h1) ?_)
      conv => whnf
      (refine runK_if ⟨hvv2 (⟨kd, ge, mo, us, ng, li, xrs, xrn, xws, xwn, ts, tn, .sl (numsA .u8 (da :: dr)) (da :: dr).length true, da :: dr, vf, ta, .sl [] 0 lt, [], pa, nx⟩ : NodeS), rfl, hf2 (⟨kd, ge, mo, us, ng, li, xrs, xrn, xws, xwn, ts, tn, .sl (numsA .u8 (da :: dr)) (da :: dr).length true, da :: dr, vf, ta, .sl [] 0 lt, [], pa, nx⟩ : NodeS), .inl rfl⟩ (runK_ret rfl ?_))
      conv => whnf
      (refine listK_of (splice_nodes0 (k := 22) (x' := (⟨kd, ge, mo, us, ng, li, xrs, xrn, xws, xwn, ts, tn, .sl (numsA .u8 (da :: dr)) (da :: dr).length true, da :: dr, vf, ta, .sl [] 0 true, [], pa, nx⟩ : NodeS)) (hget _) (Nat.le_of_ble_eq_true rfl) rfl) ?_)
      conv => whnf
      (refine ⟨by kernel_rfl, ?_⟩)
      conv => whnf
      (exact ih (IntKind.wrap .i64 (i + 1), _) _ (hst2 (⟨kd, ge, mo, us, ng, li, xrs, xrn, xws, xwn, ts, tn, .sl (numsA .u8 (da :: dr)) (da :: dr).length true, da :: dr, vf, ta, .sl [] 0 lt, [], pa, nx⟩ : NodeS)) hmu (by kernel_rfl))
    · conv => whnf
      (refine runK_ret (ev_indexRsl (sz := 25) rfl rfl rfl rfl hI0 h1) ?_)
      conv => whnf
      (refine runK_if hvv (runK_cells rfl hc1 hd1 (runK_ret rfl ?_)))
      conv => whnf
      with_reducible refine ⟨_, _, kb1 _ _ _ _ _ hb1, ?_⟩
      conv => whnf
      (refine ⟨by kernel_rfl, ?_⟩)
      conv => whnf
      with_reducible refine ⟨_, _, kb4 _ _ _ _, ?_⟩
      conv => whnf
      (refine ⟨by kernel_rfl, ?_⟩)
      conv => whnf
      with_reducible refine ⟨_, _, ke1 _ _ _ _ _ hb2, ?_⟩
      conv => whnf
      (refine ⟨by kernel_rfl, ?_⟩)
      conv => whnf
      with_reducible refine ⟨_, _, ke4 _ _ _ _, ?_⟩
      conv => whnf
      (refine ⟨by kernel_rfl, ?_⟩)
      conv => whnf
      (refine runK_ret (ev_indexRsl (sz := 25) rfl rfl rfl rfl hI0 h1) ?_)
      conv => whnf
      (refine runK_if ⟨hvv, rfl, hf1, .inl rfl⟩ (runK_ret rfl ?_))
      conv => whnf
      (refine listK_of (splice_nodes0 (k := 12) (x' := (⟨kd, ge, mo, us, ng, li, xrs, xrn, xws, xwn, ts, tn, .sl (numsA .u8 (da :: dr)) (da :: dr).length true, da :: dr, vf, ta, .sl (entriesA (la :: lr)) (la :: lr).length lt, la :: lr, pa, nx⟩ : NodeS)) hxl (Nat.le_of_ble_eq_true rfl) rfl) ?_)
      conv => whnf
      (refine runK_ret (ev_indexRsl (sz := 25) rfl rfl rfl rfl hI0 h1) ?_)
      conv => whnf
      (refine runK_if ⟨hvv2 (⟨kd, ge, mo, us, ng, li, xrs, xrn, xws, xwn, ts, tn, .sl (numsA .u8 (da :: dr)) (da :: dr).length true, da :: dr, vf, ta, .sl (entriesA (la :: lr)) (la :: lr).length lt, la :: lr, pa, nx⟩ : NodeS), rfl, hf2 (⟨kd, ge, mo, us, ng, li, xrs, xrn, xws, xwn, ts, tn, .sl (numsA .u8 (da :: dr)) (da :: dr).length true, da :: dr, vf, ta, .sl (entriesA (la :: lr)) (la :: lr).length lt, la :: lr, pa, nx⟩ : NodeS), .inl rfl⟩ (runK_ret rfl ?_))
      conv => whnf
      (refine listK_of (splice_nodes0 (k := 22) (x' := (⟨kd, ge, mo, us, ng, li, xrs, xrn, xws, xwn, ts, tn, .sl (numsA .u8 (da :: dr)) (da :: dr).length true, da :: dr, vf, ta, .sl (entriesA (la :: lr)) (la :: lr).length true, la :: lr, pa, nx⟩ : NodeS)) (hget _) (Nat.le_of_ble_eq_true rfl) rfl) ?_)
      conv => whnf
      (refine ⟨by kernel_rfl, ?_⟩)
      conv => whnf
      (exact ih (IntKind.wrap .i64 (i + 1), _) _ (hst2 (⟨kd, ge, mo, us, ng, li, xrs, xrn, xws, xwn, ts, tn, .sl (numsA .u8 (da :: dr)) (da :: dr).length true, da :: dr, vf, ta, .sl (entriesA (la :: lr)) (la :: lr).length lt, la :: lr, pa, nx⟩ : NodeS)) hmu (by kernel_rfl))
end Go.Proofs.Ytnkeijebkpjdgaa.Ab
/- Over the engine: numbers of four and eight bytes. -/
namespace Go.Proofs.Ytnkeijebkpjdgaa.Ab
open Go Go.RowKit

set_option maxRecDepth 100000
section
variable {P : Program} {flat : TypeId → Option (List Nat)} {nid : Nat} {ρ : Operand → AV}
/-- A part of a row that nobody writes: its beginning. -/
theorem ev_sliceTo {t e : TypeId} {sz : Nat} {a hi : Operand} {cells : List AV} {n : Nat} {tight : Bool} {k : IntKind} {j : Int} (ht : P.underlying t = some (.slice e)) (hs : szOf P e = some sz) (ha : ρ a = .sl cells n tight) (hh : ρ hi = .int k j) (h0 : 0 ≤ j) (h1 : j ≤ n) (hl : j.toNat * sz ≤ cells.length) :
    evOp P flat nid (.slice t a none (some hi) none) ρ = .ret (.sl (cells.take (j.toNat * sz)) j.toNat (tight && decide (j.toNat = n)), .none) := by
  simp only [evOp, sliceA, ht, ha, hs, Option.map_some, Option.map_none, boundsA, boundA, hh]
  rw [if_pos ⟨h0, h1⟩]
  simp only
  rw [if_pos hl]
  have e : (if True ∧ j.toNat = n ∧ cells.length = j.toNat * sz then cells else (cells.take (j.toNat * sz)).drop (0 * sz)) = cells.take (j.toNat * sz) := by
    split
    · rename_i h
      rw [← h.2.2, List.take_length]
    · simp
  rw [e]
  rfl
/-- Its end. -/
theorem ev_sliceFrom {t e : TypeId} {sz : Nat} {a lo : Operand} {cells : List AV} {n : Nat} {tight : Bool} {k : IntKind} {j : Int} (ht : P.underlying t = some (.slice e)) (hs : szOf P e = some sz) (ha : ρ a = .sl cells n tight) (hh : ρ lo = .int k j) (h0 : 0 ≤ j) (h1 : j ≤ n) (hl : cells.length = n * sz) :
    evOp P flat nid (.slice t a (some lo) none none) ρ = .ret (.sl (cells.drop (j.toNat * sz)) (n - j.toNat) tight, .none) := by
  simp only [evOp, sliceA, ht, ha, hs, Option.map_some, Option.map_none, boundsA, boundA, hh, Option.isNone_none, if_true]
  rw [if_pos ⟨h0, h1⟩]
  simp only
  rw [if_pos (by omega)]
  have e : (if j.toNat = 0 ∧ True ∧ cells.length = n * sz then cells else (cells.take (n * sz)).drop (j.toNat * sz)) = cells.drop (j.toNat * sz) := by
    have ht : cells.take (n * sz) = cells := by rw [← hl, List.take_length]
    split
    · rename_i h
      rw [h.1]
      simp
    · rw [ht]
  rw [e]
  simp [tightS]
end
def forceL : List AV → (List AV → Prop) → Prop
  | [], K => K []
  | v :: r, K => v.force fun v' => forceL r fun r' => K (v' :: r')
theorem forceL_eq : ∀ (l : List AV) (K : List AV → Prop), forceL l K = K l
  | [], _ => rfl
  | v :: r, K => by
    rw [forceL, AV.force_eq, forceL_eq r]
/-- Rows of few cells, and rows of these, laid open. -/
def openW (f : List AV → (List AV → Prop) → Prop) : List AV → (List AV → Prop) → Prop
  | [], K => K []
  | v :: r, K => v.force fun v' => match v' with
    | .sl c n t => listK c fun c => f c fun c => openW f r fun r' => K (.sl c n t :: r')
    | v' => openW f r fun r' => K (v' :: r')
def openL : Nat → List AV → (List AV → Prop) → Prop
  | 0, l, K => forceL l K
  | d + 1, l, K => openW (openL d) l K
theorem openW_eq {f : List AV → (List AV → Prop) → Prop} (hf : ∀ l K, f l K = K l) : ∀ (l : List AV) (K : List AV → Prop), openW f l K = K l
  | [], _ => rfl
  | v :: r, K => by
    rw [openW, AV.force_eq]
    cases v with
    | sl c n t =>
      show (listK c fun c => f c fun c => openW f r fun r' => K (.sl c n t :: r')) = _
      rw [listK_eq, hf, openW_eq hf r]
    | _ => exact openW_eq hf r _
theorem openL_eq : ∀ (d : Nat) (l : List AV) (K : List AV → Prop), openL d l K = K l
  | 0, l, K => forceL_eq l K
  | d + 1, l, K => openW_eq (openL_eq d) l K
/-- A call whose rows, of few cells, are handed over as values. -/
theorem call_open {E : Env} {n : Nat} {from_ f : FuncId} {x y as_ : List AV} {h : H} {K : AV → H → Prop} (hraw : E.raw from_ f = false) (hcl : cleanL (argsA h.bs as_).1 = true)
    (hwp : openL 2 (argsA h.bs as_).1 fun as1 => listK (argsA h.bs as_).2 fun bs1 => listK h.esc fun esc => ∃ v h', (evAll E (n + 1)).1 from_ (.fn f x y) as1 ⟨bs1, esc⟩ = some (.ret v, h') ∧ K v h') (hlend : E.lend f = false := by rfl) : ∃ v h', (evAll E (n + 1)).1 from_ (.fn f x y) as_ h = some (.ret v, h') ∧ K v h' := by
  simp only [openL_eq, listK_eq] at hwp
  obtain ⟨v, h', h1, h2⟩ := hwp
  refine ⟨v, h', ?_, h2⟩
  exact (call_args (E := E) (n := n) (from_ := from_) (f := f) (x := x) (y := y) hraw hcl hlend).trans h1
/-- A call whose rows, of few cells, are laid open. -/
theorem call_lay {call : CallF} {from_ : FuncId} {fv : AV} {as_ : List AV} {h : H} {K : AV → H → Prop} (hwp : openL 2 as_ fun as1 => ∃ v h', call from_ fv as1 h = some (.ret v, h') ∧ K v h') : ∃ v h', call from_ fv as_ h = some (.ret v, h') ∧ K v h' := by
  rw [openL_eq] at hwp
  exact hwp
/-- A byte of a number. -/
def byteS (n : Int) (s : Nat) : Int := IntKind.wrap .u8 (n.fdiv (2 ^ s))
def be4 (n : Int) : List Int := [byteS n 24, byteS n 16, byteS n 8, byteS n 0]
def be8 (n : Int) : List Int := [byteS n 56, byteS n 48, byteS n 40, byteS n 32, byteS n 24, byteS n 16, byteS n 8, byteS n 0]
theorem put4_c (m : Nat) (from_ : FuncId) (h : H) (n : Int) : evCall TE (m + 10) from_ (.fn 75 [] []) [.int .u32 n] h = some (.ret (.sl (numsA .u8 (be4 (IntKind.wrap .u64 n))) 4 false), h) := by
  skip
  kernel_rfl
def or32 (x y : Int) : Int := IntKind.wrap .u32 ((BitVec.ofInt 32 x ||| BitVec.ofInt 32 y).toNat : Int)
def join32 (x c : Int) : Int := or32 (IntKind.wrap .u32 (x * 2 ^ 8)) (IntKind.wrap .u32 c)
def get4 (a b c d : Int) : Int := join32 (join32 (join32 (join32 0 a) b) c) d
theorem get4_c (m : Nat) (from_ : FuncId) (h : H) (a b c d : Int) (r : List AV) (k : Nat) (t : Bool) (hk : 4 ≤ k) : evCall TE (m + 10) from_ (.fn 60 [] []) [.sl (.int .u8 a :: .int .u8 b :: .int .u8 c :: .int .u8 d :: r) k t] h = some (.ret (.tup [.int .u32 (get4 a b c d), .int .i64 0]), h) := by
  have c1 : ∀ (f : FuncId) (h : H), (evAll TE (m + 9)).1 f (.fn 73 [] []) [.sl (.int .u8 a :: .int .u8 b :: .int .u8 c :: .int .u8 d :: r) k t, .int .i64 4] h = some (.ret (.tup [.int .u32 (get4 a b c d), .int .i64 0]), h) := by
    intro f h
    have hlt : decide ((k : Int) < 4) = false := decide_eq_false (by omega)
    refine call_clean (fn := Try.f73) rfl Try.func73 rfl rfl rfl rfl rfl (Nat.le_of_ble_eq_true rfl) ?_
    conv => whnf
    ((with_reducible cases z0 : decide ((↑k : Int) < Int.ofNat 4)) <;> try exact Bool.noConfusion (Eq.trans (Eq.symm z0) hlt))
    conv => whnf
    (refine runK_ret (ev_sliceTo (sz := 1) rfl rfl rfl rfl (by decide) (show (4 : Int) ≤ k by omega) (by simp)) ?_)
    conv => whnf
    (refine ⟨(6 : Nat), Nat.le_of_ble_eq_true rfl, ?_⟩)
    conv => whnf
    rfl
  refine call_clean (fn := Try.f60) rfl Try.func60 rfl rfl rfl rfl rfl (Nat.le_of_ble_eq_true rfl) ?_
  conv => whnf
  with_reducible refine ⟨_, _, c1 _ _, ?_⟩
  conv => whnf
end Go.Proofs.Ytnkeijebkpjdgaa.Ab
/- Over the engine: handles. -/
namespace Go.Proofs.Ytnkeijebkpjdgaa.Ab
open Go Go.RowKit

set_option maxRecDepth 100000
def xor32 (x y : Int) : Int := IntKind.wrap .u32 ((BitVec.ofInt 32 x ^^^ BitVec.ofInt 32 y).toNat : Int)
def and32 (x y : Int) : Int := IntKind.wrap .u32 ((BitVec.ofInt 32 x &&& BitVec.ofInt 32 y).toNat : Int)
def furS (x : Int) : Int := xor32 (x.fdiv (2 ^ 1)) (and32 (IntKind.wrap .u32 (0 - and32 x 1)) 3988292384)
def furtherS (x : Int) : Int := furS (furS (furS (furS (furS (furS (furS (furS x)))))))
theorem further_c (m : Nat) (from_ : FuncId) (h : H) (x : Int) : evCall TE (m + 1) from_ (.fn 86 [] []) [.int .u32 x] h = some (.ret (.int .u32 (furtherS x)), h) := by
  skip
  kernel_rfl
def crcS (l : List Int) : Int := l.foldl (fun s c => furtherS (xor32 s (IntKind.wrap .u32 c))) 4294967295
def sumS (l : List Int) : Int := xor32 4294967295 (crcS l)
theorem sum_c (m : Nat) (from_ : FuncId) (h : H) (a0 a1 a2 a3 a4 a5 a6 a7 a8 a9 a10 a11 : Int) (t : Bool) : evCall TE (m + 2) from_ (.fn 76 [] []) [.sl [.int .u8 a0, .int .u8 a1, .int .u8 a2, .int .u8 a3, .int .u8 a4, .int .u8 a5, .int .u8 a6, .int .u8 a7, .int .u8 a8, .int .u8 a9, .int .u8 a10, .int .u8 a11] 12 t] h = some (.ret (.int .u32 (sumS [a0, a1, a2, a3, a4, a5, a6, a7, a8, a9, a10, a11])), h) := by
  have c1 : ∀ (f : FuncId) (h : H) (x : Int), (evAll TE (m + 1)).1 f (.fn 86 [] []) [.int .u32 x] h = some (.ret (.int .u32 (furtherS x)), h) := fun f h x => further_c m f h x
  refine call_clean (fn := Try.f76) rfl Try.func76 rfl rfl rfl rfl rfl (Nat.le_of_ble_eq_true rfl) ?_
  conv => whnf
  (refine ⟨(14 : Nat), Nat.le_of_ble_eq_true rfl, ?_⟩)
  conv => whnf
  with_reducible refine ⟨_, _, c1 _ _ _, ?_⟩
  conv => whnf
  with_reducible refine ⟨_, _, c1 _ _ _, ?_⟩
  conv => whnf
  with_reducible refine ⟨_, _, c1 _ _ _, ?_⟩
  conv => whnf
  with_reducible refine ⟨_, _, c1 _ _ _, ?_⟩
  conv => whnf
  with_reducible refine ⟨_, _, c1 _ _ _, ?_⟩
  conv => whnf
  with_reducible refine ⟨_, _, c1 _ _ _, ?_⟩
  conv => whnf
  with_reducible refine ⟨_, _, c1 _ _ _, ?_⟩
  conv => whnf
  with_reducible refine ⟨_, _, c1 _ _ _, ?_⟩
  conv => whnf
  with_reducible refine ⟨_, _, c1 _ _ _, ?_⟩
  conv => whnf
  with_reducible refine ⟨_, _, c1 _ _ _, ?_⟩
  conv => whnf
  with_reducible refine ⟨_, _, c1 _ _ _, ?_⟩
  conv => whnf
  with_reducible refine ⟨_, _, c1 _ _ _, ?_⟩
  conv => whnf
  rfl
theorem concat3_c (m : Nat) (from_ : FuncId) (h : H) (a0 a1 a2 a3 b0 b1 b2 b3 c0 c1 c2 c3 : Int) (t1 t2 t3 t : Bool) : evCall TE (m + 10) from_ (.fn 74 [] []) [.sl [.sl [.int .u8 a0, .int .u8 a1, .int .u8 a2, .int .u8 a3] 4 t1, .sl [.int .u8 b0, .int .u8 b1, .int .u8 b2, .int .u8 b3] 4 t2, .sl [.int .u8 c0, .int .u8 c1, .int .u8 c2, .int .u8 c3] 4 t3] 3 t] h = some (.ret (.sl [.int .u8 a0, .int .u8 a1, .int .u8 a2, .int .u8 a3, .int .u8 b0, .int .u8 b1, .int .u8 b2, .int .u8 b3, .int .u8 c0, .int .u8 c1, .int .u8 c2, .int .u8 c3] 12 false), h) := by
  skip
  kernel_rfl
theorem concat2_c (m : Nat) (from_ : FuncId) (h : H) (a0 a1 a2 a3 a4 a5 a6 a7 a8 a9 a10 a11 b0 b1 b2 b3 : Int) (t1 t2 t : Bool) : evCall TE (m + 10) from_ (.fn 74 [] []) [.sl [.sl [.int .u8 a0, .int .u8 a1, .int .u8 a2, .int .u8 a3, .int .u8 a4, .int .u8 a5, .int .u8 a6, .int .u8 a7, .int .u8 a8, .int .u8 a9, .int .u8 a10, .int .u8 a11] 12 t1, .sl [.int .u8 b0, .int .u8 b1, .int .u8 b2, .int .u8 b3] 4 t2] 2 t] h = some (.ret (.sl [.int .u8 a0, .int .u8 a1, .int .u8 a2, .int .u8 a3, .int .u8 a4, .int .u8 a5, .int .u8 a6, .int .u8 a7, .int .u8 a8, .int .u8 a9, .int .u8 a10, .int .u8 a11, .int .u8 b0, .int .u8 b1, .int .u8 b2, .int .u8 b3] 16 false), h) := by
  skip
  kernel_rfl
/-- What stands ahead of a handle's sum. -/
def headS (n g : Int) : List Int := [119, 104, 114, 102] ++ (be4 (IntKind.wrap .u64 n) ++ be4 (IntKind.wrap .u64 g))
def bytesS (n g : Int) : List Int := headS n g ++ be4 (IntKind.wrap .u64 (sumS (headS n g)))
set_option maxHeartbeats 8000000 in
theorem bytes_c (m : Nat) (from_ : FuncId) (h : H) (n g : Int) : evCall TE (m + 11) from_ (.fn 61 [] []) [.int .u32 n, .int .u32 g] h = some (.ret (.agg (numsA .u8 (bytesS n g))), h) := by
  have c1 : ∀ (f : FuncId) (h : H) (n : Int), (evAll TE (m + 10)).1 f (.fn 75 [] []) [.int .u32 n] h = some (.ret (.sl (numsA .u8 (be4 (IntKind.wrap .u64 n))) 4 false), h) := fun f h n => put4_c m f h n
  have c3 : ∀ (f : FuncId) (h : H) (a0 a1 a2 a3 b0 b1 b2 b3 c0 c1 c2 c3 : Int) (t1 t2 t3 t : Bool), (evAll TE (m + 10)).1 f (.fn 74 [] []) [.sl [.sl [.int .u8 a0, .int .u8 a1, .int .u8 a2, .int .u8 a3] 4 t1, .sl [.int .u8 b0, .int .u8 b1, .int .u8 b2, .int .u8 b3] 4 t2, .sl [.int .u8 c0, .int .u8 c1, .int .u8 c2, .int .u8 c3] 4 t3] 3 t] h = some (.ret (.sl [.int .u8 a0, .int .u8 a1, .int .u8 a2, .int .u8 a3, .int .u8 b0, .int .u8 b1, .int .u8 b2, .int .u8 b3, .int .u8 c0, .int .u8 c1, .int .u8 c2, .int .u8 c3] 12 false), h) := fun f h _ _ _ _ _ _ _ _ _ _ _ _ _ _ _ _ => concat3_c m f h ..
  have c4 : ∀ (f : FuncId) (h : H) (a0 a1 a2 a3 a4 a5 a6 a7 a8 a9 a10 a11 b0 b1 b2 b3 : Int) (t1 t2 t : Bool), (evAll TE (m + 10)).1 f (.fn 74 [] []) [.sl [.sl [.int .u8 a0, .int .u8 a1, .int .u8 a2, .int .u8 a3, .int .u8 a4, .int .u8 a5, .int .u8 a6, .int .u8 a7, .int .u8 a8, .int .u8 a9, .int .u8 a10, .int .u8 a11] 12 t1, .sl [.int .u8 b0, .int .u8 b1, .int .u8 b2, .int .u8 b3] 4 t2] 2 t] h = some (.ret (.sl [.int .u8 a0, .int .u8 a1, .int .u8 a2, .int .u8 a3, .int .u8 a4, .int .u8 a5, .int .u8 a6, .int .u8 a7, .int .u8 a8, .int .u8 a9, .int .u8 a10, .int .u8 a11, .int .u8 b0, .int .u8 b1, .int .u8 b2, .int .u8 b3] 16 false), h) := fun f h _ _ _ _ _ _ _ _ _ _ _ _ _ _ _ _ _ _ _ => concat2_c m f h ..
  have c1 : ∀ (f : FuncId) (h : H) (n : Int), (evAll TE (m + 10)).1 f (.fn 75 [] []) [.int .u32 n] h = some (.ret (.sl [.int .u8 (byteS (IntKind.wrap .u64 n) 24), .int .u8 (byteS (IntKind.wrap .u64 n) 16), .int .u8 (byteS (IntKind.wrap .u64 n) 8), .int .u8 (byteS (IntKind.wrap .u64 n) 0)] 4 false), h) := c1
  obtain ⟨s, hs⟩ : ∃ s, s = sumS (headS n g) := ⟨_, rfl⟩
  unfold bytesS
  rw [← hs]
  have c2 : ∀ (f : FuncId) (h : H) (t : Bool), (evAll TE (m + 10)).1 f (.fn 76 [] []) [.sl [.int .u8 119, .int .u8 104, .int .u8 114, .int .u8 102, .int .u8 (byteS (IntKind.wrap .u64 n) 24), .int .u8 (byteS (IntKind.wrap .u64 n) 16), .int .u8 (byteS (IntKind.wrap .u64 n) 8), .int .u8 (byteS (IntKind.wrap .u64 n) 0), .int .u8 (byteS (IntKind.wrap .u64 g) 24), .int .u8 (byteS (IntKind.wrap .u64 g) 16), .int .u8 (byteS (IntKind.wrap .u64 g) 8), .int .u8 (byteS (IntKind.wrap .u64 g) 0)] 12 t] h = some (.ret (.int .u32 s), h) := fun f h t => by
    rw [hs]
    exact sum_c (m + 8) f h 119 104 114 102 _ _ _ _ _ _ _ _ t
  unfold headS be4
  refine call_clean (fn := Try.f61) rfl Try.func61 rfl rfl rfl rfl rfl (Nat.le_of_ble_eq_true rfl) ?_
  conv => whnf
  with_reducible refine ⟨_, _, c1 _ _ _, ?_⟩
  conv => whnf
  with_reducible refine ⟨_, _, c1 _ _ _, ?_⟩
  conv => whnf
  (refine call_open rfl rfl ?_)
  conv => whnf
  with_reducible refine ⟨_, _, c3 _ _ _ _ _ _ _ _ _ _ _ _ _ _ _ _ _ _, ?_⟩
  conv => whnf
  with_reducible refine ⟨_, _, c2 _ _ _, ?_⟩
  conv => whnf
  with_reducible refine ⟨_, _, c1 _ _ _, ?_⟩
  conv => whnf
  (refine call_open rfl rfl ?_)
  conv => whnf
  with_reducible refine ⟨_, _, c4 _ _ _ _ _ _ _ _ _ _ _ _ _ _ _ _ _ _ _ _ _, ?_⟩
  conv => whnf
  rfl
end Go.Proofs.Ytnkeijebkpjdgaa.Ab
/- Over the engine: handles put and got; the handle of a node, the node of a handle. -/
namespace Go.Proofs.Ytnkeijebkpjdgaa.Ab
open Go Go.RowKit

set_option maxRecDepth 100000
theorem len_cons {α : Type} {l : List α} {n : Nat} (h : l.length = n + 1) : ∃ a r, l = a :: r ∧ r.length = n := by
  cases l with
  | nil => simp at h
  | cons a r => exact ⟨a, r, rfl, by simpa using h⟩
theorem len16 {l : List Int} (h : l.length = 16) : ∃ b0 b1 b2 b3 b4 b5 b6 b7 b8 b9 b10 b11 b12 b13 b14 b15, l = [b0, b1, b2, b3, b4, b5, b6, b7, b8, b9, b10, b11, b12, b13, b14, b15] := by
  obtain ⟨b0, r0, e0, h⟩ := len_cons h
  obtain ⟨b1, r1, e1, h⟩ := len_cons h
  obtain ⟨b2, r2, e2, h⟩ := len_cons h
  obtain ⟨b3, r3, e3, h⟩ := len_cons h
  obtain ⟨b4, r4, e4, h⟩ := len_cons h
  obtain ⟨b5, r5, e5, h⟩ := len_cons h
  obtain ⟨b6, r6, e6, h⟩ := len_cons h
  obtain ⟨b7, r7, e7, h⟩ := len_cons h
  obtain ⟨b8, r8, e8, h⟩ := len_cons h
  obtain ⟨b9, r9, e9, h⟩ := len_cons h
  obtain ⟨b10, r10, e10, h⟩ := len_cons h
  obtain ⟨b11, r11, e11, h⟩ := len_cons h
  obtain ⟨b12, r12, e12, h⟩ := len_cons h
  obtain ⟨b13, r13, e13, h⟩ := len_cons h
  obtain ⟨b14, r14, e14, h⟩ := len_cons h
  obtain ⟨b15, r15, e15, h⟩ := len_cons h
  have := List.eq_nil_of_length_eq_zero h
  exact ⟨_, _, _, _, _, _, _, _, _, _, _, _, _, _, _, _, by rw [e0, e1, e2, e3, e4, e5, e6, e7, e8, e9, e10, e11, e12, e13, e14, e15, this]⟩
def eqL : List Int → List Int → Bool
  | [], [] => true
  | a :: x, b :: y => a == b && eqL x y
  | _, _ => false
theorem putH_c (m : Nat) (from_ : FuncId) (h : H) (n g : Int) (h1 : 1 ≤ n) (h2 : n ≤ 1024) : evCall TE (m + 13) from_ (.fn 36 [] []) [.agg [.int .i64 n, .int .u32 g]] h = some (.ret (.tup [.sl (numsA .u8 (bytesS (IntKind.wrap .u32 n) g)) 16 false, .int .i64 0]), h) := by
  have c1 : ∀ (f : FuncId) (h : H), (evAll TE (m + 12)).1 f (.fn 61 [] []) [.int .u32 (IntKind.wrap .u32 n), .int .u32 g] h = some (.ret (.agg (numsA .u8 (bytesS (IntKind.wrap .u32 n) g))), h) := fun f h => bytes_c (m + 1) f h _ g
  have q1 : decide (n < 1) = false := decide_eq_false (by omega)
  have q2 : decide (n > 1024) = false := decide_eq_false (by omega)
  refine call_clean (fn := Try.f36) rfl Try.func36 rfl rfl rfl rfl rfl (Nat.le_of_ble_eq_true rfl) ?_
  conv => whnf
  ((with_reducible cases z0 : decide (n < Int.ofNat 1)) <;> try exact Bool.noConfusion (Eq.trans (Eq.symm z0) q1))
  conv => whnf
  ((with_reducible cases z1 : decide (n > Int.ofNat 1024)) <;> try exact Bool.noConfusion (Eq.trans (Eq.symm z1) q2))
  conv => whnf
  with_reducible refine ⟨_, _, c1 _ _, ?_⟩
  conv => whnf
  (refine call_inline (fn := Try.f50) rfl Try.func50 rfl rfl ?_)
  conv => whnf
  rfl
/-- The node and the number of a handle. -/
def getHS : List Int → Option (Int × Int)
  | [b0, b1, b2, b3, b4, b5, b6, b7, b8, b9, b10, b11, b12, b13, b14, b15] => if (get4 b4 b5 b6 b7 < 1 || (get4 b4 b5 b6 b7 > 1024 || !eqL (bytesS (get4 b4 b5 b6 b7) (get4 b8 b9 b10 b11)) [b0, b1, b2, b3, b4, b5, b6, b7, b8, b9, b10, b11, b12, b13, b14, b15])) = true then none else some (get4 b4 b5 b6 b7, get4 b8 b9 b10 b11)
  | _ => none
theorem getHS_len {l : List Int} (h : l.length ≠ 16) : getHS l = none := by
  unfold getHS
  split
  · simp at h
  · rfl
def getHA (o : Option (Int × Int)) : AV := match o with
  | some (n, g) => .tup [.agg [.int .i64 (IntKind.wrap .i64 n), .int .u32 g], .int .i64 0]
  | none => .tup [.agg [.int .i64 0, .int .u32 0], .int .i64 5]
set_option maxHeartbeats 8000000 in
theorem getH_c (m : Nat) (from_ : FuncId) (h : H) (v : AV) (l : List Int) (hv : rowOk .u8 v l) : evCall TE (m + 13) from_ (.fn 33 [] []) [v] h = some (.ret (getHA (getHS l)), h) := by
  cases hq : ((l.length : Int) != 16) with
  | true =>
    have hne : l.length ≠ 16 := by
      have : ¬ ((l.length : Int) = 16) := by simpa [bne] using hq
      omega
    rw [getHS_len hne]
    unfold getHA
    rcases hv with ⟨rfl, rfl⟩ | ⟨t, rfl⟩
    · refine call_clean (fn := Try.f33) rfl Try.func33 rfl rfl rfl rfl rfl (Nat.le_of_ble_eq_true rfl) ?_
      conv => whnf
      rfl
    · refine call_clean (fn := Try.f33) rfl Try.func33 rfl rfl rfl rfl rfl (Nat.le_of_ble_eq_true rfl) ?_
      conv => whnf
      ((with_reducible cases z0 : (↑l.length : Int) != Int.ofNat 16) <;> try exact Bool.noConfusion (Eq.trans (Eq.symm z0) hq))
      conv => whnf
      rfl
  | false =>
    have hl : l.length = 16 := by
      have : ((l.length : Int) = 16) := by simpa [bne] using hq
      omega
    clear hq
    rcases hv with ⟨rfl, rfl⟩ | ⟨t, rfl⟩
    · simp at hl
    obtain ⟨b0, b1, b2, b3, b4, b5, b6, b7, b8, b9, b10, b11, b12, b13, b14, b15, rfl⟩ := len16 hl
    clear hl
    unfold getHS
    dsimp only
    have g1 : ∀ (f : FuncId) (h : H) (k : Nat) (t : Bool), 4 ≤ k → (evAll TE (m + 12)).1 f (.fn 60 [] []) [.sl [.int .u8 b4, .int .u8 b5, .int .u8 b6, .int .u8 b7, .int .u8 b8, .int .u8 b9, .int .u8 b10, .int .u8 b11, .int .u8 b12, .int .u8 b13, .int .u8 b14, .int .u8 b15] k t] h = some (.ret (.tup [.int .u32 (get4 b4 b5 b6 b7), .int .i64 0]), h) := fun f h k t hk => get4_c (m + 2) f h _ _ _ _ _ k t hk
    have g2 : ∀ (f : FuncId) (h : H) (k : Nat) (t : Bool), 4 ≤ k → (evAll TE (m + 12)).1 f (.fn 60 [] []) [.sl [.int .u8 b8, .int .u8 b9, .int .u8 b10, .int .u8 b11, .int .u8 b12, .int .u8 b13, .int .u8 b14, .int .u8 b15] k t] h = some (.ret (.tup [.int .u32 (get4 b8 b9 b10 b11), .int .i64 0]), h) := fun f h k t hk => get4_c (m + 2) f h _ _ _ _ _ k t hk
    generalize get4 b4 b5 b6 b7 = nd at g1 ⊢
    generalize get4 b8 b9 b10 b11 = ge at g2 ⊢
    have c1 : ∀ (f : FuncId) (h : H), (evAll TE (m + 12)).1 f (.fn 61 [] []) [.int .u32 nd, .int .u32 ge] h = some (.ret (.agg (numsA .u8 (bytesS nd ge))), h) := fun f h => bytes_c (m + 1) f h nd ge
    obtain ⟨y0, y1, y2, y3, y4, y5, y6, y7, y8, y9, y10, y11, y12, y13, y14, y15, hy⟩ := len16 (show (bytesS nd ge).length = 16 from rfl)
    rw [hy] at c1 ⊢
    have c1 : ∀ (f : FuncId) (h : H), (evAll TE (m + 12)).1 f (.fn 61 [] []) [.int .u32 nd, .int .u32 ge] h = some (.ret (.agg [.int .u8 y0, .int .u8 y1, .int .u8 y2, .int .u8 y3, .int .u8 y4, .int .u8 y5, .int .u8 y6, .int .u8 y7, .int .u8 y8, .int .u8 y9, .int .u8 y10, .int .u8 y11, .int .u8 y12, .int .u8 y13, .int .u8 y14, .int .u8 y15]), h) := c1
    clear hy
    cases q1 : decide (nd < 1) with
    | true =>
      rw [if_pos (by rw [Bool.true_or])]
      unfold getHA
      refine call_clean (fn := Try.f33) rfl Try.func33 rfl rfl rfl rfl rfl (Nat.le_of_ble_eq_true rfl) ?_
      conv => whnf
      (refine call_lay ?_)
      conv => whnf
      with_reducible refine ⟨_, _, g1 _ _ _ _ (Nat.le_of_ble_eq_true rfl), ?_⟩
      conv => whnf
      (refine call_lay ?_)
      conv => whnf
      with_reducible refine ⟨_, _, g2 _ _ _ _ (Nat.le_of_ble_eq_true rfl), ?_⟩
      conv => whnf
      ((with_reducible cases z0 : decide (nd < Int.ofNat 1)) <;> try exact Bool.noConfusion (Eq.trans (Eq.symm z0) q1))
      conv => whnf
      (refine ⟨by kernel_rfl, ?_⟩)
      conv => whnf
      rfl
    | false =>
      cases q2 : decide (nd > 1024) with
      | true =>
        rw [if_pos (by rw [Bool.true_or, Bool.or_true])]
        unfold getHA
        refine call_clean (fn := Try.f33) rfl Try.func33 rfl rfl rfl rfl rfl (Nat.le_of_ble_eq_true rfl) ?_
        conv => whnf
        (refine call_lay ?_)
        conv => whnf
        with_reducible refine ⟨_, _, g1 _ _ _ _ (Nat.le_of_ble_eq_true rfl), ?_⟩
        conv => whnf
        (refine call_lay ?_)
        conv => whnf
        with_reducible refine ⟨_, _, g2 _ _ _ _ (Nat.le_of_ble_eq_true rfl), ?_⟩
        conv => whnf
        ((with_reducible cases z0 : decide (nd < Int.ofNat 1)) <;> try exact Bool.noConfusion (Eq.trans (Eq.symm z0) q1))
        conv => whnf
        ((with_reducible cases z1 : decide (nd > Int.ofNat 1024)) <;> try exact Bool.noConfusion (Eq.trans (Eq.symm z1) q2))
        conv => whnf
        (refine ⟨by kernel_rfl, ?_⟩)
        conv => whnf
        rfl
      | false =>
        cases q3 : eqL [y0, y1, y2, y3, y4, y5, y6, y7, y8, y9, y10, y11, y12, y13, y14, y15] [b0, b1, b2, b3, b4, b5, b6, b7, b8, b9, b10, b11, b12, b13, b14, b15] with
        | true =>
          rw [if_neg (by simp)]
          unfold getHA
          simp only [eqL] at q3
          refine call_clean (fn := Try.f33) rfl Try.func33 rfl rfl rfl rfl rfl (Nat.le_of_ble_eq_true rfl) ?_
          conv => whnf
          (refine call_lay ?_)
          conv => whnf
          with_reducible refine ⟨_, _, g1 _ _ _ _ (Nat.le_of_ble_eq_true rfl), ?_⟩
          conv => whnf
          (refine call_lay ?_)
          conv => whnf
          with_reducible refine ⟨_, _, g2 _ _ _ _ (Nat.le_of_ble_eq_true rfl), ?_⟩
          conv => whnf
          ((with_reducible cases z0 : decide (nd < Int.ofNat 1)) <;> try exact Bool.noConfusion (Eq.trans (Eq.symm z0) q1))
          conv => whnf
          ((with_reducible cases z1 : decide (nd > Int.ofNat 1024)) <;> try exact Bool.noConfusion (Eq.trans (Eq.symm z1) q2))
          conv => whnf
          with_reducible refine ⟨_, _, c1 _ _, ?_⟩
          conv => whnf
          (refine ⟨by kernel_rfl, ?_⟩)
          conv => whnf
          (refine ⟨by kernel_rfl, ?_⟩)
          conv => whnf
          ((with_reducible cases z2 : y0 == b0 && (y1 == b1 && (y2 == b2 && (y3 == b3 && (y4 == b4 && (y5 == b5 && (y6 == b6 && (y7 == b7 && (y8 == b8 && (y9 == b9 && (y10 == b10 && (y11 == b11 && (y12 == b12 && (y13 == b13 && (y14 == b14 && (y15 == b15 && true)))))))))))))))) <;> try exact Bool.noConfusion (Eq.trans (Eq.symm z2) q3))
          conv => whnf
        | false =>
          rw [if_pos (by simp)]
          unfold getHA
          simp only [eqL] at q3
          refine call_clean (fn := Try.f33) rfl Try.func33 rfl rfl rfl rfl rfl (Nat.le_of_ble_eq_true rfl) ?_
          conv => whnf
          (refine call_lay ?_)
          conv => whnf
          with_reducible refine ⟨_, _, g1 _ _ _ _ (Nat.le_of_ble_eq_true rfl), ?_⟩
          conv => whnf
          (refine call_lay ?_)
          conv => whnf
          with_reducible refine ⟨_, _, g2 _ _ _ _ (Nat.le_of_ble_eq_true rfl), ?_⟩
          conv => whnf
          ((with_reducible cases z0 : decide (nd < Int.ofNat 1)) <;> try exact Bool.noConfusion (Eq.trans (Eq.symm z0) q1))
          conv => whnf
          ((with_reducible cases z1 : decide (nd > Int.ofNat 1024)) <;> try exact Bool.noConfusion (Eq.trans (Eq.symm z1) q2))
          conv => whnf
          with_reducible refine ⟨_, _, c1 _ _, ?_⟩
          conv => whnf
          (refine ⟨by kernel_rfl, ?_⟩)
          conv => whnf
          (refine ⟨by kernel_rfl, ?_⟩)
          conv => whnf
          ((with_reducible cases z2 : y0 == b0 && (y1 == b1 && (y2 == b2 && (y3 == b3 && (y4 == b4 && (y5 == b5 && (y6 == b6 && (y7 == b7 && (y8 == b8 && (y9 == b9 && (y10 == b10 && (y11 == b11 && (y12 == b12 && (y13 == b13 && (y14 == b14 && (y15 == b15 && true)))))))))))))))) <;> try exact Bool.noConfusion (Eq.trans (Eq.symm z2) q3))
          conv => whnf
          rfl
end Go.Proofs.Ytnkeijebkpjdgaa.Ab
