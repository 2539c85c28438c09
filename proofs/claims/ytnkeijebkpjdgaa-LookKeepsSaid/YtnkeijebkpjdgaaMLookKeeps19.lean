import Derived.Test.YtnkeijebkpjdgaaMLookKeeps18
import Derived.Test.YtnkeijebkpjdgaaMLookKeeps17
import Derived.Test.YtnkeijebkpjdgaaMLookKeeps15
set_option linter.unusedVariables false
set_option linter.unusedSimpArgs false
/- Over the engine: the handle of a node, the node of a handle, of a name. -/
namespace Go.Proofs.Ytnkeijebkpjdgaa.Ab
open Go Go.RowKit

set_option maxRecDepth 100000
theorem there_facts {ns : List NodeS} {n : Int} (h : thereS ns n = true) : 0 < n ∧ n < ns.length ∧ (kindS ns n != 0) = true := by
  unfold thereS at h
  simp only [Bool.and_eq_true, decide_eq_true_eq] at h
  exact h
def genS (ns : List NodeS) (n : Int) : Int := match ns[n.toNat]? with
  | some x => x.gen
  | none => 0
def handleA (ns : List NodeS) (n : Int) : AV := if (!thereS ns n || decide (n > 1024)) = true then .tup [.sl0, .int .i64 1] else .tup [.sl (numsA .u8 (bytesS (IntKind.wrap .u32 n) (genS ns n))) 16 false, .int .i64 0]
theorem handle_c (m : Nat) (from_ : FuncId) (h : H) (v : AV) (ns : List NodeS) (hv : nodesOk v ns) (gen n : Int) : evCall TE (m + 14) from_ (.fn 13 [] []) [.agg [v, .int .u32 gen], .int .i64 n] h = some (.ret (handleA ns n), h) := by
  have c1 : ∀ (f : FuncId) (h : H), (evAll TE (m + 13)).1 f (.fn 21 [] []) [.agg [v, .int .u32 gen], .int .i64 n] h = some (.ret (.bool (thereS ns n)), h) := fun f h => there_c (m + 12) f h v ns hv gen n
  cases ht : thereS ns n with
  | false =>
    rw [ht] at c1
    have e : handleA ns n = .tup [.sl0, .int .i64 1] := by
      unfold handleA
      rw [ht]
      rfl
    rw [e]
    rcases hv with ⟨rfl, rfl⟩ | ⟨t, rfl⟩
    · refine call_clean (fn := Try.f13) rfl Try.func13 rfl rfl rfl rfl rfl (Nat.le_of_ble_eq_true rfl) ?_
      conv => whnf
      with_reducible refine ⟨_, _, c1 _ _, ?_⟩
      conv => whnf
    · refine call_clean (fn := Try.f13) rfl Try.func13 rfl rfl rfl rfl rfl (Nat.le_of_ble_eq_true rfl) ?_
      conv => whnf
      with_reducible refine ⟨_, _, c1 _ _, ?_⟩
      conv => whnf
  | true =>
    rw [ht] at c1
    obtain ⟨h1, h2, _⟩ := there_facts ht
    have h0 : 0 ≤ n := by omega
    obtain ⟨x, hx⟩ : ∃ x, ns[n.toNat]? = some x := ⟨_, List.getElem?_eq_getElem (by omega)⟩
    rcases hv with ⟨rfl, rfl⟩ | ⟨t, rfl⟩
    · simp at hx
    cases hq : decide (n > 1024) with
    | true =>
      have e : handleA ns n = .tup [.sl0, .int .i64 1] := by
        unfold handleA
        rw [ht, hq]
        rfl
      rw [e]
      refine call_clean (fn := Try.f13) rfl Try.func13 rfl rfl rfl rfl rfl (Nat.le_of_ble_eq_true rfl) ?_
      conv => whnf
      with_reducible refine ⟨_, _, c1 _ _, ?_⟩
      conv => whnf
      ((with_reducible cases z0 : decide (n > Int.ofNat 1024)) <;> try exact Bool.noConfusion (Eq.trans (Eq.symm z0) hq))
      conv => whnf
    | false =>
      have e : handleA ns n = .tup [.sl (numsA .u8 (bytesS (IntKind.wrap .u32 n) x.gen)) 16 false, .int .i64 0] := by
        unfold handleA genS
        rw [ht, hq, hx]
        rfl
      rw [e]
      have c2 : ∀ (f : FuncId) (h : H), (evAll TE (m + 13)).1 f (.fn 36 [] []) [.agg [.int .i64 n, .int .u32 x.gen]] h = some (.ret (.tup [.sl (numsA .u8 (bytesS (IntKind.wrap .u32 n) x.gen)) 16 false, .int .i64 0]), h) := fun f h => putH_c m f h n x.gen (by omega) (by have := of_decide_eq_false hq; omega)
      refine call_clean (fn := Try.f13) rfl Try.func13 rfl rfl rfl rfl rfl (Nat.le_of_ble_eq_true rfl) ?_
      conv => whnf
      with_reducible refine ⟨_, _, c1 _ _, ?_⟩
      conv => whnf
      ((with_reducible cases z0 : decide (n > Int.ofNat 1024)) <;> try exact Bool.noConfusion (Eq.trans (Eq.symm z0) hq))
      conv => whnf
      (refine runK_ret (ev_indexSl (sz := 25) rfl rfl rfl rfl h0 h2) ?_)
      conv => whnf
      (refine runK_ret (ev_loadV (z := 1) rfl rfl rfl ((nodesA_cell hx 1 (by decide)).trans rfl)) ?_)
      conv => whnf
      with_reducible refine ⟨_, _, c2 _ _, ?_⟩
      conv => whnf
def findHA (ns : List NodeS) (o : Option (Int × Int)) : AV := match o with
  | none => .tup [.int .i64 0, .int .u32 10001]
  | some (n, g) => if (!thereS ns (IntKind.wrap .i64 n) || (genS ns (IntKind.wrap .i64 n) != g)) = true then .tup [.int .i64 0, .int .u32 70] else .tup [.int .i64 (IntKind.wrap .i64 n), .int .u32 0]
set_option maxHeartbeats 8000000 in
theorem find_c (m : Nat) (from_ : FuncId) (h : H) (v : AV) (ns : List NodeS) (hv : nodesOk v ns) (gen : Int) (w : AV) (l : List Int) (hw : rowOk .u8 w l) : evCall TE (m + 14) from_ (.fn 10 [] []) [.agg [v, .int .u32 gen], w] h = some (.ret (findHA ns (getHS l)), h) := by
  have c1 : ∀ (f : FuncId) (h : H), (evAll TE (m + 13)).1 f (.fn 33 [] []) [w] h = some (.ret (getHA (getHS l)), h) := fun f h => getH_c m f h w l hw
  cases ho : getHS l with
  | none =>
    rw [ho] at c1
    unfold findHA
    unfold getHA at c1
    dsimp only at c1 ⊢
    rcases hv with ⟨rfl, rfl⟩ | ⟨t, rfl⟩ <;> rcases hw with ⟨rfl, rfl⟩ | ⟨t', rfl⟩
    all_goals refine call_clean (fn := Try.f10) rfl Try.func10 rfl rfl rfl rfl rfl (Nat.le_of_ble_eq_true rfl) ?_
    all_goals
      conv => whnf
      with_reducible refine ⟨_, _, c1 _ _, ?_⟩
      conv => whnf
  | some p =>
    obtain ⟨n0, g⟩ := p
    rw [ho] at c1
    unfold findHA
    unfold getHA at c1
    dsimp only at c1 ⊢
    obtain ⟨n, hn⟩ : ∃ n, n = IntKind.wrap .i64 n0 := ⟨_, rfl⟩
    rw [← hn] at c1 ⊢
    have c2 : ∀ (f : FuncId) (h : H), (evAll TE (m + 13)).1 f (.fn 21 [] []) [.agg [v, .int .u32 gen], .int .i64 n] h = some (.ret (.bool (thereS ns n)), h) := fun f h => there_c (m + 12) f h v ns hv gen n
    cases ht : thereS ns n with
    | false =>
      rw [ht] at c2
      rw [if_pos (show (!false || (genS ns n != g)) = true from rfl)]
      rcases hv with ⟨rfl, rfl⟩ | ⟨t, rfl⟩ <;> rcases hw with ⟨rfl, rfl⟩ | ⟨t', rfl⟩
      all_goals refine call_clean (fn := Try.f10) rfl Try.func10 rfl rfl rfl rfl rfl (Nat.le_of_ble_eq_true rfl) ?_
      all_goals
        conv => whnf
        with_reducible refine ⟨_, _, c1 _ _, ?_⟩
        conv => whnf
        with_reducible refine ⟨_, _, c2 _ _, ?_⟩
        conv => whnf
        (refine ⟨by kernel_rfl, ?_⟩)
        conv => whnf
        (refine ⟨by kernel_rfl, ?_⟩)
        conv => whnf
    | true =>
      rw [ht] at c2
      obtain ⟨h1, h2, _⟩ := there_facts ht
      have h0 : 0 ≤ n := by omega
      obtain ⟨x, hx⟩ : ∃ x, ns[n.toNat]? = some x := ⟨_, List.getElem?_eq_getElem (by omega)⟩
      rcases hv with ⟨rfl, rfl⟩ | ⟨t, rfl⟩
      · simp at hx
      have eg : genS ns n = x.gen := by unfold genS; rw [hx]
      rw [eg]
      cases hq : (x.gen != g) with
      | true =>
        rw [if_pos (show (!true || true) = true from rfl)]
        rcases hw with ⟨rfl, rfl⟩ | ⟨t', rfl⟩
        all_goals refine call_clean (fn := Try.f10) rfl Try.func10 rfl rfl rfl rfl rfl (Nat.le_of_ble_eq_true rfl) ?_
        all_goals
          conv => whnf
          with_reducible refine ⟨_, _, c1 _ _, ?_⟩
          conv => whnf
          with_reducible refine ⟨_, _, c2 _ _, ?_⟩
          conv => whnf
          (refine ⟨by kernel_rfl, ?_⟩)
          conv => whnf
          (refine runK_ret (ev_indexSl (sz := 25) rfl rfl rfl rfl h0 h2) ?_)
          conv => whnf
          (refine runK_ret (ev_loadV (z := 1) rfl rfl rfl ((nodesA_cell hx 1 (by decide)).trans rfl)) ?_)
          conv => whnf
          (refine ⟨by kernel_rfl, ?_⟩)
          conv => whnf
          ((with_reducible cases z0 : x.gen != g) <;> try exact Bool.noConfusion (Eq.trans (Eq.symm z0) hq))
          conv => whnf
      | false =>
        rw [if_neg (show ¬ (!true || false) = true by decide)]
        rcases hw with ⟨rfl, rfl⟩ | ⟨t', rfl⟩
        all_goals refine call_clean (fn := Try.f10) rfl Try.func10 rfl rfl rfl rfl rfl (Nat.le_of_ble_eq_true rfl) ?_
        all_goals
          conv => whnf
          with_reducible refine ⟨_, _, c1 _ _, ?_⟩
          conv => whnf
          with_reducible refine ⟨_, _, c2 _ _, ?_⟩
          conv => whnf
          (refine ⟨by kernel_rfl, ?_⟩)
          conv => whnf
          (refine runK_ret (ev_indexSl (sz := 25) rfl rfl rfl rfl h0 h2) ?_)
          conv => whnf
          (refine runK_ret (ev_loadV (z := 1) rfl rfl rfl ((nodesA_cell hx 1 (by decide)).trans rfl)) ?_)
          conv => whnf
          (refine ⟨by kernel_rfl, ?_⟩)
          conv => whnf
          ((with_reducible cases z0 : x.gen != g) <;> try exact Bool.noConfusion (Eq.trans (Eq.symm z0) hq))
          conv => whnf
/-- Where a name stands among entries. -/
def whereS (name : List UInt8) : Int → List EntryS → Int
  | _, [] => -1
  | i, e :: r => if (e.name == name) = true then i else whereS name (i + 1) r
theorem whereS_drop {name : List UInt8} {l : List EntryS} {i : Int} {e : EntryS} (h0 : 0 ≤ i) (h : l[i.toNat]? = some e) : whereS name i (l.drop i.toNat) = if (e.name == name) = true then i else whereS name (i + 1) (l.drop (i + 1).toNat) := by
  obtain ⟨h1, rfl⟩ := List.getElem?_eq_some_iff.1 h
  rw [List.drop_eq_getElem_cons h1, whereS, show (i + 1).toNat = i.toNat + 1 by omega]
theorem whereS_some {name : List UInt8} : ∀ (l : List EntryS) (i : Int), 0 ≤ i → whereS name i l = -1 ∨ ∃ (k : Nat) (e : EntryS), whereS name i l = i + k ∧ l[k]? = some e ∧ (e.name == name) = true ∧ l.find? (fun e => e.name == name) = some e
  | [], i, _ => .inl rfl
  | e :: r, i, h => by
    rw [whereS]
    cases hq : (e.name == name) with
    | true => exact .inr ⟨0, e, by rw [if_pos rfl]; simp, rfl, hq, by rw [List.find?_cons, hq]⟩
    | false =>
      rw [if_neg (fun h => Bool.noConfusion h)]
      rcases whereS_some r (i + 1) (by omega) with h1 | ⟨k, e', h1, h2, h3, h4⟩
      · exact .inl h1
      · exact .inr ⟨k + 1, e', by rw [h1]; omega, h2, h3, by rw [List.find?_cons, hq]; exact h4⟩
theorem whereS_none {name : List UInt8} : ∀ (l : List EntryS) (i : Int), 0 ≤ i → whereS name i l = -1 → l.find? (fun e => e.name == name) = none
  | [], _, _, _ => rfl
  | e :: r, i, h0, h => by
    rw [whereS] at h
    cases hq : (e.name == name) with
    | true => rw [hq, if_pos rfl] at h; omega
    | false =>
      rw [hq, if_neg (fun h => Bool.noConfusion h)] at h
      rw [List.find?_cons, hq]
      exact whereS_none r (i + 1) (by omega) h
set_option maxHeartbeats 4000000 in
theorem idx_c (m : Nat) (from_ : FuncId) (h : H) (v : AV) (l : List EntryS) (hv : entsOk v l) (name : List UInt8) (hl : l.length ≤ 140737488351232) : evCall TE (m + 3) from_ (.fn 81 [] []) [v, .fn 82 [] [.vref [.str name] 0]] h = some (.ret (.int .i64 (whereS name 0 l)), h) := by
  have c1 : ∀ (f : FuncId) (h : H) (e : EntryS), (evAll TE (m + 2)).1 f (.fn 82 [] [.vref [.str name] 0]) [.agg (entryA e)] h = some (.ret (.bool (e.name == name)), h) := by
    intro f h e
    obtain ⟨en, eno, ec⟩ := e
    unfold entryA
    refine call_clean (fn := Try.f82) rfl Try.func82 rfl rfl rfl rfl rfl (Nat.le_of_ble_eq_true rfl) ?_
    conv => whnf
  rcases hv with ⟨rfl, rfl⟩ | ⟨t, rfl⟩
  · refine call_clean (fn := Try.f81) rfl Try.func81 rfl rfl rfl rfl rfl (Nat.le_of_ble_eq_true rfl) ?_
    conv => whnf
    (refine ⟨(2 : Nat), Nat.le_of_ble_eq_true rfl, ?_⟩)
    conv => whnf
    rfl
  obtain ⟨r, hr⟩ : ∃ r, r = whereS name 0 l := ⟨_, rfl⟩
  rw [← hr]
  refine call_clean (fn := Try.f81) rfl Try.func81 rfl rfl rfl rfl rfl (Nat.le_of_ble_eq_true rfl) ?_
  conv => whnf
  refine ⟨l.length + 1, by show l.length + 1 ≤ 4611686018427387904; omega, ?_⟩
  refine rounds_at (fun s (i : Int) => ⟨RG.of 19 [(8, .int .i64 i), (7, .int .i64 l.length), (1, .fn 82 [] [.vref [.str name] 0]), (0, .sl (entriesA l) l.length t)], s.h⟩) (fun i => 0 ≤ i ∧ i ≤ l.length ∧ r = whereS name i (l.drop i.toNat)) (fun i => (l.length - i).toNat) _ 0 ⟨by omega, by omega, hr⟩ (by show ((l.length : Int) - 0).toNat < l.length + 1; omega) (by kernel_rfl) ?_
  intro i m' hI ih
  dsimp only at hI ih ⊢
  obtain ⟨hI0, hI1, hI2⟩ := hI
  conv => whnf
  cases hlt : decide (i < (l.length : Int)) with
  | false =>
    have hlt := of_decide_eq_false hlt
    rw [List.drop_eq_nil_of_le (by omega)] at hI2
    clear ih
    conv => whnf
    (rw [hI2]; rfl)
  | true =>
    have hlt := of_decide_eq_true hlt
    obtain ⟨e, he⟩ : ∃ e, l[i.toNat]? = some e := ⟨_, List.getElem?_eq_getElem (by omega)⟩
    have hw : IntKind.wrap .i64 (i + 1) = i + 1 := wrap64 (by omega) (by omega)
    have hmu : (l.length - IntKind.wrap .i64 (i + 1)).toNat < (l.length - i).toNat := by rw [hw]; omega
    rw [whereS_drop hI0 he] at hI2
    have c2 : ∀ (f : FuncId) (h : H), (evAll TE (m + 2)).1 f (.fn 82 [] [.vref [.str name] 0]) [.agg (entryA e)] h = some (.ret (.bool (e.name == name)), h) := fun f h => c1 f h e
    have hc : i.toNat * 3 + 3 ≤ (entriesA l).length := by rw [entriesA_len]; omega
    have hd := entriesA_entry he
    have hst : (e.name == name) = false → 0 ≤ IntKind.wrap .i64 (i + 1) ∧ IntKind.wrap .i64 (i + 1) ≤ l.length ∧ r = whereS name (IntKind.wrap .i64 (i + 1)) (l.drop (IntKind.wrap .i64 (i + 1)).toNat) := by
      intro hq
      rw [hq, if_neg (fun h => Bool.noConfusion h)] at hI2
      rw [hw]
      exact ⟨by omega, by omega, hI2⟩
    have hfi : (e.name == name) = true → r = i := by
      intro hq
      rw [hq, if_pos rfl] at hI2
      exact hI2
    generalize (e.name == name) = q at c2 hst hfi
    clear c1 hI2
    obtain ⟨en, eno, ec⟩ := e
    unfold entryA at c2 hd
    dsimp only at c2 hd
    cases q with
    | true =>
      clear ih
      conv => whnf
      (refine runK_ret (ev_indexSl (sz := 3) rfl rfl rfl rfl hI0 hlt) ?_)
      conv => whnf
      (refine runK_ret (ev_loadVA (z := 3) rfl rfl rfl hc hd) ?_)
      conv => whnf
      with_reducible refine ⟨_, _, c2 _ _, ?_⟩
      conv => whnf
      (rw [hfi rfl])
    | false =>
      conv => whnf
      (refine runK_ret (ev_indexSl (sz := 3) rfl rfl rfl rfl hI0 hlt) ?_)
      conv => whnf
      (refine runK_ret (ev_loadVA (z := 3) rfl rfl rfl hc hd) ?_)
      conv => whnf
      with_reducible refine ⟨_, _, c2 _ _, ?_⟩
      conv => whnf
      (exact ih (IntKind.wrap .i64 (i + 1)) _ (hst rfl) hmu (by kernel_rfl))
def entsAt (ns : List NodeS) (d : Int) : List EntryS := match ns[d.toNat]? with
  | some x => x.ents
  | none => []
/-- The node of a name in a directory. -/
def entryS (ns : List NodeS) (d : Int) (name : List UInt8) : Int := if dirS ns d = true then if (name == [46]) = true then d else if (name == [46, 46]) = true then parentS ns d else match (entsAt ns d).find? (fun e => e.name == name) with
    | some e => e.node
    | none => 0
  else 0
set_option maxHeartbeats 8000000 in
theorem entry_c (m : Nat) (from_ : FuncId) (h : H) (ns : List NodeS) (t : Bool) (gen d : Int) (name : List UInt8) (hok : ∀ x ∈ ns, x.ok ∧ x.ents.length ≤ 140737488351232) : evCall TE (m + 4) from_ (.fn 70 [] []) [.agg [.sl (nodesA ns) ns.length t, .int .u32 gen], .int .i64 d, .str name] h = some (.ret (.int .i64 (entryS ns d name)), h) := by
  have c1 : ∀ (f : FuncId) (h : H), (evAll TE (m + 3)).1 f (.fn 20 [] []) [.agg [.sl (nodesA ns) ns.length t, .int .u32 gen], .int .i64 d, .int .u32 2] h = some (.ret (.bool (dirS ns d)), h) := fun f h => is_c (m + 1) f h ns t gen d 2
  cases hd : dirS ns d with
  | false =>
    rw [hd] at c1
    unfold entryS
    rw [hd, if_neg (fun h => Bool.noConfusion h)]
    refine call_clean (fn := Try.f70) rfl Try.func70 rfl rfl rfl rfl rfl (Nat.le_of_ble_eq_true rfl) ?_
    conv => whnf
    with_reducible refine ⟨_, _, c1 _ _, ?_⟩
    conv => whnf
  | true =>
    rw [hd] at c1
    have ht : thereS ns d = true := by unfold dirS at hd; rw [Bool.and_eq_true] at hd; exact hd.1
    obtain ⟨h1, h2, _⟩ := there_facts ht
    have h0 : 0 ≤ d := by omega
    obtain ⟨x, hx⟩ : ∃ x, ns[d.toNat]? = some x := ⟨_, List.getElem?_eq_getElem (by omega)⟩
    have hc1 : d.toNat * 25 + 25 ≤ (nodesA ns).length := by rw [nodesA_len]; omega
    have hd1 := nodesA_node hx
    have k1 := hok x (List.mem_of_getElem? hx)
    have hp : parentS ns d = x.parent := by unfold parentS; rw [hx]
    have hes : entsAt ns d = x.ents := by unfold entsAt; rw [hx]
    unfold entryS
    rw [hd, if_pos rfl, hp, hes]
    clear hp hes
    have c2 : ∀ (f : FuncId) (h : H), (evAll TE (m + 3)).1 f (.fn 81 [] []) [x.list, .fn 82 [] [.vref [.str name] 0]] h = some (.ret (.int .i64 (whereS name 0 x.ents)), h) := fun f h => idx_c m f h x.list x.ents k1.1.2 name k1.2
    have hi := whereS_some (name := name) x.ents 0 (by omega)
    have hno := whereS_none (name := name) x.ents 0 (by omega)
    have k1 := k1.1
    obtain ⟨kd, ge, mo, us, ng, li, xrs, xrn, xws, xwn, ts, tn, da, by_, vf, ta, ls, es, pa, nx⟩ := x
    simp only [NodeS.ok, rowOk, entsOk] at k1
    obtain ⟨hd3, hd4⟩ := k1
    dsimp only at c2 hi hno ⊢
    generalize whereS name 0 es = r at c2 hi hno
    cases q1 : (name == [46]) with
    | true =>
      rw [if_pos rfl]
      clear hi hno c2
      rcases hd3 with ⟨rfl, rfl⟩ | ⟨dt, rfl⟩ <;> rcases hd4 with ⟨rfl, rfl⟩ | ⟨lt, rfl⟩
      all_goals refine call_clean (fn := Try.f70) rfl Try.func70 rfl rfl rfl rfl rfl (Nat.le_of_ble_eq_true rfl) ?_
      all_goals
        conv => whnf
        with_reducible refine ⟨_, _, c1 _ _, ?_⟩
        conv => whnf
        (refine runK_ret (ev_indexSl (cells := nodesA ns) (sz := 25) rfl rfl rfl rfl h0 h2) ?_)
        conv => whnf
        (refine runK_ret (ev_loadVA (z := 25) rfl rfl rfl hc1 hd1) ?_)
        conv => whnf
        ((with_reducible cases z0 : name == [UInt8.ofNat 46]) <;> try exact Bool.noConfusion (Eq.trans (Eq.symm z0) q1))
        conv => whnf
    | false =>
      rw [if_neg (fun h => Bool.noConfusion h)]
      cases q2 : (name == [46, 46]) with
      | true =>
        rw [if_pos rfl]
        clear hi hno c2
        rcases hd3 with ⟨rfl, rfl⟩ | ⟨dt, rfl⟩ <;> rcases hd4 with ⟨rfl, rfl⟩ | ⟨lt, rfl⟩
        all_goals refine call_clean (fn := Try.f70) rfl Try.func70 rfl rfl rfl rfl rfl (Nat.le_of_ble_eq_true rfl) ?_
        all_goals
          conv => whnf
          with_reducible refine ⟨_, _, c1 _ _, ?_⟩
          conv => whnf
          (refine runK_ret (ev_indexSl (cells := nodesA ns) (sz := 25) rfl rfl rfl rfl h0 h2) ?_)
          conv => whnf
          (refine runK_ret (ev_loadVA (z := 25) rfl rfl rfl hc1 hd1) ?_)
          conv => whnf
          ((with_reducible cases z0 : name == [UInt8.ofNat 46]) <;> try exact Bool.noConfusion (Eq.trans (Eq.symm z0) q1))
          conv => whnf
          ((with_reducible cases z1 : name == [UInt8.ofNat 46, UInt8.ofNat 46]) <;> try exact Bool.noConfusion (Eq.trans (Eq.symm z1) q2))
          conv => whnf
      | false =>
        rw [if_neg (fun h => Bool.noConfusion h)]
        rcases hi with hi | ⟨k, e, hi, he, _, hfi⟩
        · rw [hno hi]
          subst hi
          clear hno
          rcases hd3 with ⟨rfl, rfl⟩ | ⟨dt, rfl⟩ <;> rcases hd4 with ⟨rfl, rfl⟩ | ⟨lt, rfl⟩
          all_goals refine call_clean (fn := Try.f70) rfl Try.func70 rfl rfl rfl rfl rfl (Nat.le_of_ble_eq_true rfl) ?_
          all_goals
            conv => whnf
            with_reducible refine ⟨_, _, c1 _ _, ?_⟩
            conv => whnf
            (refine runK_ret (ev_indexSl (cells := nodesA ns) (sz := 25) rfl rfl rfl rfl h0 h2) ?_)
            conv => whnf
            (refine runK_ret (ev_loadVA (z := 25) rfl rfl rfl hc1 hd1) ?_)
            conv => whnf
            ((with_reducible cases z0 : name == [UInt8.ofNat 46]) <;> try exact Bool.noConfusion (Eq.trans (Eq.symm z0) q1))
            conv => whnf
            ((with_reducible cases z1 : name == [UInt8.ofNat 46, UInt8.ofNat 46]) <;> try exact Bool.noConfusion (Eq.trans (Eq.symm z1) q2))
            conv => whnf
            (refine ⟨_, _, call_lend rfl rfl rfl rfl rfl (c2 _ _), ?_⟩)
            conv => whnf
        · rw [hfi]
          clear hno hfi
          have hk := (List.getElem?_eq_some_iff.1 he).1
          have hr0 : 0 ≤ r := by omega
          have hrl : r < (es.length : Int) := by omega
          have hrn : decide (r < 0) = false := decide_eq_false (by omega)
          have he : es[r.toNat]? = some e := by rw [show r.toNat = k by omega]; exact he
          clear hi
          rcases hd4 with ⟨rfl, rfl⟩ | ⟨lt, rfl⟩
          · simp at he
          rcases hd3 with ⟨rfl, rfl⟩ | ⟨dt, rfl⟩
          all_goals refine call_clean (fn := Try.f70) rfl Try.func70 rfl rfl rfl rfl rfl (Nat.le_of_ble_eq_true rfl) ?_
          all_goals
            conv => whnf
            with_reducible refine ⟨_, _, c1 _ _, ?_⟩
            conv => whnf
            (refine runK_ret (ev_indexSl (cells := nodesA ns) (sz := 25) rfl rfl rfl rfl h0 h2) ?_)
            conv => whnf
            (refine runK_ret (ev_loadVA (z := 25) rfl rfl rfl hc1 hd1) ?_)
            conv => whnf
            ((with_reducible cases z0 : name == [UInt8.ofNat 46]) <;> try exact Bool.noConfusion (Eq.trans (Eq.symm z0) q1))
            conv => whnf
            ((with_reducible cases z1 : name == [UInt8.ofNat 46, UInt8.ofNat 46]) <;> try exact Bool.noConfusion (Eq.trans (Eq.symm z1) q2))
            conv => whnf
            (refine ⟨_, _, call_lend rfl rfl rfl rfl rfl (c2 _ _), ?_⟩)
            conv => whnf
            ((with_reducible cases z2 : decide (r < Int.ofNat 0)) <;> try exact Bool.noConfusion (Eq.trans (Eq.symm z2) hrn))
            conv => whnf
            (refine runK_ret (ev_indexSl (cells := entriesA es) (sz := 3) rfl rfl rfl rfl hr0 hrl) ?_)
            conv => whnf
            (refine runK_ret (ev_loadV (z := 1) rfl rfl rfl ((entriesA_cell he 1 (by decide)).trans rfl)) ?_)
            conv => whnf
end Go.Proofs.Ytnkeijebkpjdgaa.Ab
/- Over the engine: the entries of a directory. -/
namespace Go.Proofs.Ytnkeijebkpjdgaa.Ab
open Go Go.RowKit

set_option maxRecDepth 100000
def isNamed (prev : List EntryS) (s : List UInt8) : Bool := prev.any fun e => s == e.name
def namesA (prev : List EntryS) : List (AV × AV) := prev.map fun e => (.str e.name, .int .i64 1)
theorem find_none : ∀ (prev : List EntryS) (s : List UInt8) (i : Nat), isNamed prev s = false → findA (.str s) (namesA prev) i = some none
  | [], _, _, _ => rfl
  | e :: r, s, i, h => by
    unfold isNamed at h
    rw [List.any_cons, Bool.or_eq_false_iff] at h
    show (match sameCell (.str s) (.str e.name) with | some true => _ | some false => _ | none => _) = _
    simp only [sameCell, h.1]
    exact find_none r s (i + 1) h.2
theorem find_some : ∀ (prev : List EntryS) (s : List UInt8) (i : Nat), isNamed prev s = true → ∃ k, findA (.str s) (namesA prev) i = some (some (i + k, .int .i64 1)) ∧ ∀ w, findA (.str s) ((namesA prev).modify k fun e => (e.1, w)) i = some (some (i + k, w))
  | [], _, _, h => by simp [isNamed] at h
  | e :: r, s, i, h => by
    unfold isNamed at h
    rw [List.any_cons] at h
    cases hb : s == e.name with
    | true =>
      refine ⟨0, ?_, fun w => ?_⟩
      · show (match sameCell (.str s) (.str e.name) with | some true => _ | some false => _ | none => _) = _
        simp only [sameCell, hb]
        rfl
      · show (match sameCell (.str s) (.str e.name) with | some true => _ | some false => _ | none => _) = _
        simp only [sameCell, hb]
        rfl
    | false =>
      rw [hb, Bool.false_or] at h
      obtain ⟨k, h1, h2⟩ := find_some r s (i + 1) h
      refine ⟨k + 1, ?_, fun w => ?_⟩
      · show (match sameCell (.str s) (.str e.name) with | some true => _ | some false => _ | none => _) = _
        simp only [sameCell, hb]
        rw [show i + (k + 1) = i + 1 + k by omega]
        exact h1
      · show (match sameCell (.str s) (.str e.name) with | some true => _ | some false => _ | none => _) = _
        simp only [sameCell, hb]
        rw [show i + (k + 1) = i + 1 + k by omega]
        exact h2 w
theorem find_last : ∀ (prev : List EntryS) (s : List UInt8) (i : Nat) (w : AV), isNamed prev s = false → findA (.str s) (namesA prev ++ [(.str s, w)]) i = some (some (i + prev.length, w))
  | [], s, i, w, _ => by
    show (match sameCell (.str s) (.str s) with | some true => _ | some false => _ | none => _) = _
    simp only [sameCell, beq_self_eq_true]
    rfl
  | e :: r, s, i, w, h => by
    unfold isNamed at h
    rw [List.any_cons, Bool.or_eq_false_iff] at h
    show (match sameCell (.str s) (.str e.name) with | some true => _ | some false => _ | none => _) = _
    simp only [sameCell, h.1]
    rw [List.length_cons, show i + (r.length + 1) = i + 1 + r.length by omega]
    exact find_last r s (i + 1) w h.2
theorem topL_app2 : ∀ (a b : List AV), topL (a ++ b) = max (topL a) (topL b)
  | [], b => by simp [topL]
  | x :: a, b => by simp only [List.cons_append, topL, topL_app2 a b, Nat.max_assoc]
theorem names_top : ∀ prev : List EntryS, topL ((namesA prev).map (·.1)) = 0 ∧ topL ((namesA prev).map (·.2)) = 0
  | [] => ⟨rfl, rfl⟩
  | e :: r => by
    obtain ⟨h1, h2⟩ := names_top r
    constructor
    · show max 0 (topL ((namesA r).map (·.1))) = 0
      rw [h1]
      rfl
    · show max 0 (topL ((namesA r).map (·.2))) = 0
      rw [h2]
      rfl
theorem map_top {es : List (AV × AV)} (h1 : topL (es.map (·.1)) = 0) (h2 : topL (es.map (·.2)) = 0) : (AB.map es).top = 0 := by
  simp only [AB.top, h1, h2]
  rfl
theorem modify_top (prev : List EntryS) : ∀ k : Nat, (AB.map ((namesA prev).modify k fun e => (e.1, .int .i64 2))).top = 0 := by
  intro k
  refine map_top ?_ ?_
  · induction prev generalizing k with
    | nil => cases k <;> rfl
    | cons e r ih =>
      cases k with
      | zero =>
        show max 0 (topL ((namesA r).map (·.1))) = 0
        rw [(names_top r).1]
        rfl
      | succ k =>
        show max 0 (topL (((namesA r).modify k fun e => (e.1, .int .i64 2)).map (·.1))) = 0
        rw [ih k]
        rfl
  · induction prev generalizing k with
    | nil => cases k <;> rfl
    | cons e r ih =>
      cases k with
      | zero =>
        show max 0 (topL ((namesA r).map (·.2))) = 0
        rw [(names_top r).2]
        rfl
      | succ k =>
        show max 0 (topL (((namesA r).modify k fun e => (e.1, .int .i64 2)).map (·.2))) = 0
        rw [ih k]
        rfl
/-- What is bad about an entry, behind others. -/
def entBad (ns : List NodeS) (next : Int) (prev : List EntryS) (last : Int) (e : EntryS) : Bool :=
  decide (e.cookie ≤ last) || (decide (e.cookie ≥ next) || (isNamed prev e.name || ((nameSt e.name != 0) || (e.name == [46] || (e.name == [46, 46] || (e.node == 1 || !thereS ns e.node))))))
def entsBad (ns : List NodeS) (next : Int) : List EntryS → Int → List EntryS → Bool
  | _, last, [] => !decide (next > last)
  | prev, last, e :: r => entBad ns next prev last e || entsBad ns next (prev ++ [e]) e.cookie r
def entriesS (ns : List NodeS) (d : NodeS) : Bool := !decide ((d.ents.length : Int) > 1024) && !entsBad ns d.next [] 2 d.ents
def entryLS (ns : List NodeS) (t : Bool) (gen : Int) (d : NodeS) (a : Int × Int) : ST :=
  ⟨RG.of 79 [(17, .int .i64 a.1), (16, .int .i64 d.ents.length), (15, d.list), (6, .mref 2), (5, .int .u64 a.2), (3, .ref 1 0 0), (2, .ref 0 0 0)], ⟨[.cells [.sl (nodesA ns) ns.length t, .int .u32 gen] ⟨false, 0, false, true⟩, .cells (nodeA d) ⟨false, 0, false, true⟩, .map (namesA (d.ents.take a.1.toNat))], []⟩⟩
set_option maxHeartbeats 8000000 in
theorem entries_c (m : Nat) (from_ : FuncId) (h : H) (ns : List NodeS) (t : Bool) (gen : Int) (d : NodeS) (hd : d.ok) (hl : ∀ e ∈ d.ents, e.name.length ≤ 140737488351232) (hn : d.ents.length ≤ 140737488351232) : evCall TE (m + 5) from_ (.fn 27 [] []) [.agg [.sl (nodesA ns) ns.length t, .int .u32 gen], .agg (nodeA d)] h = some (.ret (.bool (entriesS ns d)), h) := by
  have c1 : ∀ (f : FuncId) (h : H) (e : EntryS), e ∈ d.ents → (evAll TE (m + 4)).1 f (.fn 45 [] []) [.str e.name] h = some (.ret (.int .u32 (nameSt e.name)), h) := fun f h e he => name_c m f h e.name (hl e he)
  have c2 : ∀ (f : FuncId) (h : H) (n : Int), (evAll TE (m + 4)).1 f (.fn 21 [] []) [.agg [.sl (nodesA ns) ns.length t, .int .u32 gen], .int .i64 n] h = some (.ret (.bool (thereS ns n)), h) := fun f h n => there_c (m + 3) f h _ ns (.inr ⟨t, rfl⟩) gen n
  obtain ⟨r, hr⟩ : ∃ r, r = entriesS ns d := ⟨_, rfl⟩
  rw [← hr]
  unfold entriesS at hr
  clear hl
  obtain ⟨kd, ge, mo, us, ng, li, xrs, xrn, xws, xwn, ts, tn, da, by_, vf, ta, ls, es, pa, nx⟩ := d
  obtain ⟨hd3, hd4⟩ := hd
  dsimp only at hd3 hd4 c1 hr hn
  rcases hd3 with ⟨rfl, rfl⟩ | ⟨dt, rfl⟩ <;> rcases hd4 with ⟨rfl, rfl⟩ | ⟨lt, rfl⟩
  · refine call_clean (fn := Try.f27) rfl Try.func27 rfl rfl rfl rfl rfl (Nat.le_of_ble_eq_true rfl) ?_
    conv => whnf
    (with_reducible refine ⟨(2 : Nat), ?_, ?_⟩; · exact Nat.le_of_ble_eq_true rfl)
    conv => whnf
    (rw [hr]; simp [entsBad])
  · refine call_clean (fn := Try.f27) rfl Try.func27 rfl rfl rfl rfl rfl (Nat.le_of_ble_eq_true rfl) ?_
    conv => whnf
    cases hg : decide ((es.length : Int) > 1024) with
    | true =>
      conv => whnf
      rw [hr, hg]
      rfl
    | false =>
      rw [hg, Bool.not_false, Bool.true_and] at hr
      conv => whnf
      refine ⟨es.length + 1, by show es.length + 1 ≤ 4611686018427387904; omega, ?_⟩
      refine rounds_ind (entryLS ns t gen ⟨kd, ge, mo, us, ng, li, xrs, xrn, xws, xwn, ts, tn, .sl0, [], vf, ta, (.sl (entriesA es) es.length lt), es, pa, nx⟩) (fun a => 0 ≤ a.1 ∧ a.1 ≤ es.length ∧ r = !entsBad ns nx (es.take a.1.toNat) a.2 (es.drop a.1.toNat)) (fun a => (es.length - a.1).toNat) ?_ _ (0, 2) _ ⟨by omega, by omega, hr⟩ (by simp only; omega) (by kernel_rfl)
      intro a m' hI ih
      obtain ⟨i, la⟩ := a
      dsimp only at hI ih ⊢
      obtain ⟨hI0, hI1, hI2⟩ := hI
      conv => whnf
      cases h1 : decide (i < (es.length : Int)) with
      | false =>
        have h1 := of_decide_eq_false h1
        rw [List.drop_eq_nil_of_le (by omega)] at hI2
        conv => whnf
        (rw [hI2]; simp [entsBad])
      | true =>
        have h1 := of_decide_eq_true h1
        obtain ⟨e, he⟩ : ∃ e, es[i.toNat]? = some e := ⟨_, List.getElem?_eq_getElem (by omega)⟩
        have hc1 : i.toNat * 3 + 3 ≤ (entriesA es).length := by rw [entriesA_len]; omega
        have hd1 := entriesA_entry he
        have c3 := fun f h => c1 f h e (List.mem_of_getElem? he)
        have hdr : es.drop i.toNat = e :: es.drop (i.toNat + 1) := by
          obtain ⟨h3, rfl⟩ := List.getElem?_eq_some_iff.1 he
          exact List.drop_eq_getElem_cons h3
        have htk : es.take (i.toNat + 1) = es.take i.toNat ++ [e] := by
          obtain ⟨h3, rfl⟩ := List.getElem?_eq_some_iff.1 he
          exact List.take_succ_eq_append_getElem h3
        rw [hdr, entsBad] at hI2
        have hw : IntKind.wrap .i64 (i + 1) = i + 1 := wrap64 (by omega) (by omega)
        have hmu : (es.length - IntKind.wrap .i64 (i + 1)).toNat < (es.length - i).toNat := by rw [hw]; omega
        have htn : (IntKind.wrap .i64 (i + 1)).toNat = i.toNat + 1 := by rw [hw]; omega
        have hst : entBad ns nx (es.take i.toNat) la e = false → 0 ≤ IntKind.wrap .i64 (i + 1) ∧ IntKind.wrap .i64 (i + 1) ≤ es.length ∧ r = !entsBad ns nx (es.take (IntKind.wrap .i64 (i + 1)).toNat) e.cookie (es.drop (IntKind.wrap .i64 (i + 1)).toNat) := by
          intro hb
          rw [hb, Bool.false_or] at hI2
          rw [htn, htk]
          exact ⟨by rw [hw]; omega, by rw [hw]; omega, hI2⟩
        have hfa : entBad ns nx (es.take i.toNat) la e = true → r = false := by
          intro hb
          rw [hI2, hb]
          rfl
        have hnm : namesA (es.take (IntKind.wrap .i64 (i + 1)).toNat) = namesA (es.take i.toNat) ++ [(.str e.name, .int .i64 1)] := by
          rw [htn, htk]
          simp [namesA]
        obtain ⟨bd, hbd⟩ : ∃ b, b = entBad ns nx (es.take i.toNat) la e := ⟨_, rfl⟩
        rw [← hbd] at hst hfa
        unfold entBad at hbd
        clear hI2 hdr htk
        generalize es.take i.toNat = prev at *
        generalize nameSt e.name = nst at c3 hbd
        obtain ⟨xa, xb, xc⟩ := e
        dsimp only at c3 hbd hst hnm hd1
        generalize hth : thereS ns xb = th at hbd
        have c4 := fun f h => c2 f h xb
        rw [hth] at c4
        cases hnd : isNamed prev xa with
        | true =>
          obtain ⟨k, hf1, hf2⟩ := find_some prev xa 0 hnd
          have hbt : bd = true := by rw [hbd, hnd]; simp
          rw [Nat.zero_add] at hf1
          rw [hbt] at hfa
          have hf3 := hf2 (.int .i64 2)
          rw [Nat.zero_add] at hf3
          conv => whnf
          (refine runK_ret (ev_indexSl (sz := 3) rfl rfl rfl rfl hI0 h1) ?_)
          conv => whnf
          (refine runK_ret (ev_loadVA (z := 3) rfl rfl rfl hc1 hd1) ?_)
          conv => whnf
          (refine runK_ret (v := .int .i64 1) (w := .none) (by simp only [hf1]; rfl) ?_)
          conv => whnf
          (refine runK_ret (v := .tup []) (w := .blk 2 (.map ((namesA prev).modify k fun e => (e.1, .int .i64 2)))) (by simp only [mapSetA, hf1]; rfl) ?_)
          conv => whnf
          (refine listK_of (if_pos (by rw [modify_top]; exact Nat.zero_le _)) ?_)
          conv => whnf
          cases z0 : decide (xc ≤ la)
          · conv => whnf
            cases z1 : decide (xc ≥ nx)
            · conv => whnf
              (refine runK_ret (v := .int .i64 2) (w := .none) (by simp only [hf3]; rfl) ?_)
              conv => whnf
              (rw [hfa rfl])
            · conv => whnf
              (rw [hfa rfl])
          · conv => whnf
            (rw [hfa rfl])
        | false =>
          have hf1 := find_none prev xa 0 hnd
          have hf2 := find_last prev xa 0 (.int .i64 1) hnd
          rw [hnd] at hbd
          have htp : topL ((namesA prev ++ [(AV.str xa, AV.int .i64 1)]).map (·.1)) = 0 ∧ topL ((namesA prev ++ [(AV.str xa, AV.int .i64 1)]).map (·.2)) = 0 := by
            rw [List.map_append, List.map_append, topL_app2, topL_app2, (names_top prev).1, (names_top prev).2]
            exact ⟨rfl, rfl⟩
          conv => whnf
          (refine runK_ret (ev_indexSl (sz := 3) rfl rfl rfl rfl hI0 h1) ?_)
          conv => whnf
          (refine runK_ret (ev_loadVA (z := 3) rfl rfl rfl hc1 hd1) ?_)
          conv => whnf
          (refine runK_ret (v := .int .i64 0) (w := .none) (by simp only [hf1]; rfl) ?_)
          conv => whnf
          (refine runK_ret (v := .tup []) (w := .blk 2 (.map (namesA prev ++ [(.str xa, .int .i64 1)]))) (by simp only [mapSetA, hf1]; rfl) ?_)
          conv => whnf
          (refine listK_of (if_pos (by rw [map_top htp.1 htp.2]; exact Nat.zero_le _)) ?_)
          conv => whnf
          cases z0 : decide (xc ≤ la)
          · conv => whnf
            cases z1 : decide (xc ≥ nx)
            · conv => whnf
              (refine runK_ret (v := .int .i64 1) (w := .none) (by simp only [hf2]; rfl) ?_)
              conv => whnf
              with_reducible refine ⟨_, _, c3 _ _, ?_⟩
              conv => whnf
              cases z2 : nst != Int.ofNat 0
              · conv => whnf
                cases z3 : xa == [UInt8.ofNat 46]
                · conv => whnf
                  cases z4 : xa == [UInt8.ofNat 46, UInt8.ofNat 46]
                  · conv => whnf
                    cases z5 : xb == Int.ofNat 1
                    · conv => whnf
                      with_reducible refine ⟨_, _, c4 _ _, ?_⟩
                      conv => whnf
                      cases th
                      · conv => whnf
                        (rw [hfa (by clear ih; rw [hbd]; simp_all)])
                      · conv => whnf
                        (exact ih (IntKind.wrap .i64 (i + 1), xc) _ (hst (by clear ih; rw [hbd]; simp_all)) hmu (by unfold entryLS; dsimp only; rw [hnm]; kernel_rfl))
                    · conv => whnf
                      (rw [hfa (by clear ih; rw [hbd]; simp_all)])
                  · conv => whnf
                    (rw [hfa (by clear ih; rw [hbd]; simp_all)])
                · conv => whnf
                  (rw [hfa (by clear ih; rw [hbd]; simp_all)])
              · conv => whnf
                (rw [hfa (by clear ih; rw [hbd]; simp_all)])
            · conv => whnf
              (rw [hfa (by clear ih; rw [hbd]; simp_all)])
          · conv => whnf
            (rw [hfa (by clear ih; rw [hbd]; simp_all)])
  · refine call_clean (fn := Try.f27) rfl Try.func27 rfl rfl rfl rfl rfl (Nat.le_of_ble_eq_true rfl) ?_
    conv => whnf
    (with_reducible refine ⟨(2 : Nat), ?_, ?_⟩; · exact Nat.le_of_ble_eq_true rfl)
    conv => whnf
    (rw [hr]; simp [entsBad])
  · refine call_clean (fn := Try.f27) rfl Try.func27 rfl rfl rfl rfl rfl (Nat.le_of_ble_eq_true rfl) ?_
    conv => whnf
    cases hg : decide ((es.length : Int) > 1024) with
    | true =>
      conv => whnf
      rw [hr, hg]
      rfl
    | false =>
      rw [hg, Bool.not_false, Bool.true_and] at hr
      conv => whnf
      refine ⟨es.length + 1, by show es.length + 1 ≤ 4611686018427387904; omega, ?_⟩
      refine rounds_ind (entryLS ns t gen ⟨kd, ge, mo, us, ng, li, xrs, xrn, xws, xwn, ts, tn, (.sl (numsA .u8 by_) by_.length dt), by_, vf, ta, (.sl (entriesA es) es.length lt), es, pa, nx⟩) (fun a => 0 ≤ a.1 ∧ a.1 ≤ es.length ∧ r = !entsBad ns nx (es.take a.1.toNat) a.2 (es.drop a.1.toNat)) (fun a => (es.length - a.1).toNat) ?_ _ (0, 2) _ ⟨by omega, by omega, hr⟩ (by simp only; omega) (by kernel_rfl)
      intro a m' hI ih
      obtain ⟨i, la⟩ := a
      dsimp only at hI ih ⊢
      obtain ⟨hI0, hI1, hI2⟩ := hI
      conv => whnf
      cases h1 : decide (i < (es.length : Int)) with
      | false =>
        have h1 := of_decide_eq_false h1
        rw [List.drop_eq_nil_of_le (by omega)] at hI2
        conv => whnf
        (rw [hI2]; simp [entsBad])
      | true =>
        have h1 := of_decide_eq_true h1
        obtain ⟨e, he⟩ : ∃ e, es[i.toNat]? = some e := ⟨_, List.getElem?_eq_getElem (by omega)⟩
        have hc1 : i.toNat * 3 + 3 ≤ (entriesA es).length := by rw [entriesA_len]; omega
        have hd1 := entriesA_entry he
        have c3 := fun f h => c1 f h e (List.mem_of_getElem? he)
        have hdr : es.drop i.toNat = e :: es.drop (i.toNat + 1) := by
          obtain ⟨h3, rfl⟩ := List.getElem?_eq_some_iff.1 he
          exact List.drop_eq_getElem_cons h3
        have htk : es.take (i.toNat + 1) = es.take i.toNat ++ [e] := by
          obtain ⟨h3, rfl⟩ := List.getElem?_eq_some_iff.1 he
          exact List.take_succ_eq_append_getElem h3
        rw [hdr, entsBad] at hI2
        have hw : IntKind.wrap .i64 (i + 1) = i + 1 := wrap64 (by omega) (by omega)
        have hmu : (es.length - IntKind.wrap .i64 (i + 1)).toNat < (es.length - i).toNat := by rw [hw]; omega
        have htn : (IntKind.wrap .i64 (i + 1)).toNat = i.toNat + 1 := by rw [hw]; omega
        have hst : entBad ns nx (es.take i.toNat) la e = false → 0 ≤ IntKind.wrap .i64 (i + 1) ∧ IntKind.wrap .i64 (i + 1) ≤ es.length ∧ r = !entsBad ns nx (es.take (IntKind.wrap .i64 (i + 1)).toNat) e.cookie (es.drop (IntKind.wrap .i64 (i + 1)).toNat) := by
          intro hb
          rw [hb, Bool.false_or] at hI2
          rw [htn, htk]
          exact ⟨by rw [hw]; omega, by rw [hw]; omega, hI2⟩
        have hfa : entBad ns nx (es.take i.toNat) la e = true → r = false := by
          intro hb
          rw [hI2, hb]
          rfl
        have hnm : namesA (es.take (IntKind.wrap .i64 (i + 1)).toNat) = namesA (es.take i.toNat) ++ [(.str e.name, .int .i64 1)] := by
          rw [htn, htk]
          simp [namesA]
        obtain ⟨bd, hbd⟩ : ∃ b, b = entBad ns nx (es.take i.toNat) la e := ⟨_, rfl⟩
        rw [← hbd] at hst hfa
        unfold entBad at hbd
        clear hI2 hdr htk
        generalize es.take i.toNat = prev at *
        generalize nameSt e.name = nst at c3 hbd
        obtain ⟨xa, xb, xc⟩ := e
        dsimp only at c3 hbd hst hnm hd1
        generalize hth : thereS ns xb = th at hbd
        have c4 := fun f h => c2 f h xb
        rw [hth] at c4
        cases hnd : isNamed prev xa with
        | true =>
          obtain ⟨k, hf1, hf2⟩ := find_some prev xa 0 hnd
          have hbt : bd = true := by rw [hbd, hnd]; simp
          rw [Nat.zero_add] at hf1
          rw [hbt] at hfa
          have hf3 := hf2 (.int .i64 2)
          rw [Nat.zero_add] at hf3
          conv => whnf
          (refine runK_ret (ev_indexSl (sz := 3) rfl rfl rfl rfl hI0 h1) ?_)
          conv => whnf
          (refine runK_ret (ev_loadVA (z := 3) rfl rfl rfl hc1 hd1) ?_)
          conv => whnf
          (refine runK_ret (v := .int .i64 1) (w := .none) (by simp only [hf1]; rfl) ?_)
          conv => whnf
          (refine runK_ret (v := .tup []) (w := .blk 2 (.map ((namesA prev).modify k fun e => (e.1, .int .i64 2)))) (by simp only [mapSetA, hf1]; rfl) ?_)
          conv => whnf
          (refine listK_of (if_pos (by rw [modify_top]; exact Nat.zero_le _)) ?_)
          conv => whnf
          cases z0 : decide (xc ≤ la)
          · conv => whnf
            cases z1 : decide (xc ≥ nx)
            · conv => whnf
              (refine runK_ret (v := .int .i64 2) (w := .none) (by simp only [hf3]; rfl) ?_)
              conv => whnf
              (rw [hfa rfl])
            · conv => whnf
              (rw [hfa rfl])
          · conv => whnf
            (rw [hfa rfl])
        | false =>
          have hf1 := find_none prev xa 0 hnd
          have hf2 := find_last prev xa 0 (.int .i64 1) hnd
          rw [hnd] at hbd
          have htp : topL ((namesA prev ++ [(AV.str xa, AV.int .i64 1)]).map (·.1)) = 0 ∧ topL ((namesA prev ++ [(AV.str xa, AV.int .i64 1)]).map (·.2)) = 0 := by
            rw [List.map_append, List.map_append, topL_app2, topL_app2, (names_top prev).1, (names_top prev).2]
            exact ⟨rfl, rfl⟩
          conv => whnf
          (refine runK_ret (ev_indexSl (sz := 3) rfl rfl rfl rfl hI0 h1) ?_)
          conv => whnf
          (refine runK_ret (ev_loadVA (z := 3) rfl rfl rfl hc1 hd1) ?_)
          conv => whnf
          (refine runK_ret (v := .int .i64 0) (w := .none) (by simp only [hf1]; rfl) ?_)
          conv => whnf
          (refine runK_ret (v := .tup []) (w := .blk 2 (.map (namesA prev ++ [(.str xa, .int .i64 1)]))) (by simp only [mapSetA, hf1]; rfl) ?_)
          conv => whnf
          (refine listK_of (if_pos (by rw [map_top htp.1 htp.2]; exact Nat.zero_le _)) ?_)
          conv => whnf
          cases z0 : decide (xc ≤ la)
          · conv => whnf
            cases z1 : decide (xc ≥ nx)
            · conv => whnf
              (refine runK_ret (v := .int .i64 1) (w := .none) (by simp only [hf2]; rfl) ?_)
              conv => whnf
              with_reducible refine ⟨_, _, c3 _ _, ?_⟩
              conv => whnf
              cases z2 : nst != Int.ofNat 0
              · conv => whnf
                cases z3 : xa == [UInt8.ofNat 46]
                · conv => whnf
                  cases z4 : xa == [UInt8.ofNat 46, UInt8.ofNat 46]
                  · conv => whnf
                    cases z5 : xb == Int.ofNat 1
                    · conv => whnf
                      with_reducible refine ⟨_, _, c4 _ _, ?_⟩
                      conv => whnf
                      cases th
                      · conv => whnf
                        (rw [hfa (by clear ih; rw [hbd]; simp_all)])
                      · conv => whnf
                        (exact ih (IntKind.wrap .i64 (i + 1), xc) _ (hst (by clear ih; rw [hbd]; simp_all)) hmu (by unfold entryLS; dsimp only; rw [hnm]; kernel_rfl))
                    · conv => whnf
                      (rw [hfa (by clear ih; rw [hbd]; simp_all)])
                  · conv => whnf
                    (rw [hfa (by clear ih; rw [hbd]; simp_all)])
                · conv => whnf
                  (rw [hfa (by clear ih; rw [hbd]; simp_all)])
              · conv => whnf
                (rw [hfa (by clear ih; rw [hbd]; simp_all)])
            · conv => whnf
              (rw [hfa (by clear ih; rw [hbd]; simp_all)])
          · conv => whnf
            (rw [hfa (by clear ih; rw [hbd]; simp_all)])
end Go.Proofs.Ytnkeijebkpjdgaa.Ab
/- Over the engine: nodes that have what they may not; directories within one another. -/
namespace Go.Proofs.Ytnkeijebkpjdgaa.Ab
open Go Go.RowKit

set_option maxRecDepth 100000
theorem bad1_c (m : Nat) (from_ : FuncId) (h : H) (x : NodeS) (hx : x.ok) (hl : x.target.length ≤ 140737488351232) : evCall TE (m + 6) from_ (.fn 23 [] []) [.agg (nodeA x)] h = some (.ret (.bool (!onlyS x)), h) := by
  have c1 : ∀ (f : FuncId) (h : H), (evAll TE (m + 5)).1 f (.fn 24 [] []) [.agg (nodeA x)] h = some (.ret (.bool (onlyS x)), h) := fun f h => only_c m f h x hx hl
  generalize onlyS x = q at c1 ⊢
  unfold nodeA at c1 ⊢
  obtain ⟨kd, ge, mo, us, ng, li, xrs, xrn, xws, xwn, ts, tn, da, by_, vf, ta, ls, es, pa, nx⟩ := x
  simp only [NodeS.ok, rowOk, entsOk] at hx
  obtain ⟨hd3, hd4⟩ := hx
  dsimp only at c1 ⊢
  rcases hd3 with ⟨rfl, rfl⟩ | ⟨dt, rfl⟩ <;> rcases hd4 with ⟨rfl, rfl⟩ | ⟨lt, rfl⟩
  all_goals refine call_clean (fn := Try.f23) rfl Try.func23 rfl rfl rfl rfl rfl (Nat.le_of_ble_eq_true rfl) ?_
  all_goals
    conv => whnf
    with_reducible refine ⟨_, _, c1 _ _, ?_⟩
    conv => whnf
def anyBad (ns : List NodeS) : Bool := ns.any fun x => !onlyS x
theorem anyBad_drop {ns : List NodeS} {i : Nat} {x : NodeS} (h : ns[i]? = some x) : anyBad (ns.drop i) = (!onlyS x || anyBad (ns.drop (i + 1))) := by
  obtain ⟨h1, rfl⟩ := List.getElem?_eq_some_iff.1 h
  unfold anyBad
  rw [List.drop_eq_getElem_cons h1, List.any_cons]
def idxbS (ns : List NodeS) (t : Bool) (i : Int) : ST :=
  ⟨RG.of 19 [(8, .int .i64 i), (7, .int .i64 ns.length), (1, .fn 23 [] []), (0, .sl (nodesA ns) ns.length t)], ⟨[], []⟩⟩
set_option maxHeartbeats 4000000 in
theorem index_bad (m : Nat) (ns : List NodeS) (t : Bool) (hok : ∀ x ∈ ns, x.ok ∧ x.target.length ≤ 140737488351232) (hl : ns.length ≤ 140737488351232) : ∃ v, (∃ r : Int, v = .int .i64 r ∧ decide (r ≥ 0) = anyBad ns) ∧ ∀ (from_ : FuncId) (h : H), evCall TE (m + 7) from_ (.fn 42 [] []) [.sl (nodesA ns) ns.length t, .fn 23 [] []] h = some (.ret v, h) := by
  refine call_cleanP (fn := Try.f42) rfl Try.func42 rfl (fun _ => rfl) rfl rfl (Nat.le_of_ble_eq_true rfl) ?_
  conv => whnf
  refine ⟨ns.length + 1, by show ns.length + 1 ≤ 4611686018427387904; omega, ?_⟩
  refine rounds_ind (idxbS ns t) (fun i => 0 ≤ i ∧ i ≤ ns.length ∧ anyBad ns = anyBad (ns.drop i.toNat)) (fun i => (ns.length - i).toNat) ?_ _ 0 _ ⟨by omega, by omega, rfl⟩ (by omega) (by kernel_rfl)
  intro i m' hI ih
  obtain ⟨hI0, hI1, hI2⟩ := hI
  conv => whnf
  cases h1 : decide (i < (ns.length : Int)) with
  | false =>
    have h1 := of_decide_eq_false h1
    rw [List.drop_eq_nil_of_le (by omega)] at hI2
    conv => whnf
    (exact ⟨rfl, _, rfl, by rw [hI2]; rfl⟩)
  | true =>
    have h1 := of_decide_eq_true h1
    obtain ⟨x, hx⟩ : ∃ x, ns[i.toNat]? = some x := ⟨_, List.getElem?_eq_getElem (by omega)⟩
    have hc1 : i.toNat * 25 + 25 ≤ (nodesA ns).length := by rw [nodesA_len]; omega
    have hd1 := nodesA_node hx
    have k1 := hok x (List.mem_of_getElem? hx)
    have c1 : ∀ (f : FuncId) (h : H), (evAll TE (m + 6)).1 f (.fn 23 [] []) [.agg (nodeA x)] h = some (.ret (.bool (!onlyS x)), h) := fun f h => bad1_c m f h x k1.1 k1.2
    rw [anyBad_drop hx] at hI2
    generalize onlyS x = q at c1 hI2
    unfold nodeA at c1
    have hw : IntKind.wrap .i64 (i + 1) = i + 1 := wrap64 (by omega) (by omega)
    have hmu : (ns.length - IntKind.wrap .i64 (i + 1)).toNat < (ns.length - i).toNat := by rw [hw]; omega
    have hst : q = true → 0 ≤ IntKind.wrap .i64 (i + 1) ∧ IntKind.wrap .i64 (i + 1) ≤ ns.length ∧ anyBad ns = anyBad (ns.drop (IntKind.wrap .i64 (i + 1)).toNat) := by
      intro he
      rw [he] at hI2
      rw [hw, show (i + 1).toNat = i.toNat + 1 by omega]
      exact ⟨by omega, by omega, hI2⟩
    have hfa : q = false → decide (i ≥ 0) = anyBad ns := by
      intro he
      rw [hI2, he, decide_eq_true hI0]
      rfl
    cases q with
    | true =>
      conv => whnf
      (refine runK_ret (ev_indexSl (sz := 25) rfl rfl rfl rfl hI0 h1) ?_)
      conv => whnf
      (refine runK_ret (ev_loadVA (z := 25) rfl rfl rfl hc1 hd1) ?_)
      conv => whnf
      with_reducible refine ⟨_, _, c1 _ _, ?_⟩
      conv => whnf
      (exact ih (IntKind.wrap .i64 (i + 1)) _ (hst rfl) hmu (by kernel_rfl))
    | false =>
      conv => whnf
      (refine runK_ret (ev_indexSl (sz := 25) rfl rfl rfl rfl hI0 h1) ?_)
      conv => whnf
      (refine runK_ret (ev_loadVA (z := 25) rfl rfl rfl hc1 hd1) ?_)
      conv => whnf
      with_reducible refine ⟨_, _, c1 _ _, ?_⟩
      conv => whnf
      (exact ⟨rfl, _, rfl, hfa rfl⟩)
theorem contains_bad (m : Nat) (from_ : FuncId) (h : H) (ns : List NodeS) (t : Bool) (hok : ∀ x ∈ ns, x.ok ∧ x.target.length ≤ 140737488351232) (hl : ns.length ≤ 140737488351232) : evCall TE (m + 8) from_ (.fn 22 [] []) [.sl (nodesA ns) ns.length t, .fn 23 [] []] h = some (.ret (.bool (anyBad ns)), h) := by
  obtain ⟨_, ⟨r, rfl, hr⟩, hc⟩ := index_bad m ns t hok hl
  have c1 : ∀ (f : FuncId) (h : H), (evAll TE (m + 7)).1 f (.fn 42 [] []) [.sl (nodesA ns) ns.length t, .fn 23 [] []] h = some (.ret (.int .i64 r), h) := fun f h => hc f h
  rw [← hr]
  refine call_clean (fn := Try.f22) rfl Try.func22 rfl rfl rfl rfl rfl (Nat.le_of_ble_eq_true rfl) ?_
  conv => whnf
  with_reducible refine ⟨_, _, c1 _ _, ?_⟩
  conv => whnf
end Go.Proofs.Ytnkeijebkpjdgaa.Ab
/- Over the engine: may a tree be. -/
namespace Go.Proofs.Ytnkeijebkpjdgaa.Ab
open Go Go.RowKit

/-- What is asked of a node, that nodes.Check may be walked. -/
structure NodeS.few (x : NodeS) : Prop where
  target : x.target.length ≤ 140737488351232
  ents : ∀ e ∈ x.ents, e.name.length ≤ 140737488351232
  entsL : x.ents.length * 32 ≤ 140737488351232
theorem NodeS.rng.few {x : NodeS} (h : x.rng) : x.few := ⟨h.target, fun e he => (h.ents e he).1, h.entsL⟩
set_option maxRecDepth 100000
theorem timesC_c (m : Nat) (from_ : FuncId) (h : H) (s n : Int) : evCall TE (m + 1) from_ (.fn 26 [] []) [.agg [.int .u32 s, .int .u32 n]] h = some (.ret (.bool (decide (n < 1000000000))), h) := by
  refine call_clean (fn := Try.f26) rfl Try.func26 rfl rfl rfl rfl rfl (Nat.le_of_ble_eq_true rfl) ?_
  conv => whnf
/-- Numbers that were counted once each. -/
def gensA (g : List Int) : List (AV × AV) := g.map fun n => (.int .u32 n, .int .i64 1)
def isGen (g : List Int) (n : Int) : Bool := g.any fun k => n == k
theorem gen_none : ∀ (g : List Int) (n : Int) (i : Nat), isGen g n = false → findA (.int .u32 n) (gensA g) i = some none
  | [], _, _, _ => rfl
  | k :: r, n, i, h => by
    unfold isGen at h
    rw [List.any_cons, Bool.or_eq_false_iff] at h
    show (match sameCell (.int .u32 n) (.int .u32 k) with | some true => _ | some false => _ | none => _) = _
    simp only [sameCell, h.1, if_true]
    exact gen_none r n (i + 1) h.2
theorem gen_some : ∀ (g : List Int) (n : Int) (i : Nat), isGen g n = true → ∃ k, findA (.int .u32 n) (gensA g) i = some (some (i + k, .int .i64 1)) ∧ ∀ w, findA (.int .u32 n) ((gensA g).modify k fun e => (e.1, w)) i = some (some (i + k, w))
  | [], _, _, h => by simp [isGen] at h
  | a :: r, n, i, h => by
    unfold isGen at h
    rw [List.any_cons] at h
    cases hb : n == a with
    | true =>
      refine ⟨0, ?_, fun w => ?_⟩
      · show (match sameCell (.int .u32 n) (.int .u32 a) with | some true => _ | some false => _ | none => _) = _
        simp only [sameCell, hb, if_true]
        rfl
      · show (match sameCell (.int .u32 n) (.int .u32 a) with | some true => _ | some false => _ | none => _) = _
        simp only [sameCell, hb, if_true]
        rfl
    | false =>
      rw [hb, Bool.false_or] at h
      obtain ⟨k, h1, h2⟩ := gen_some r n (i + 1) h
      refine ⟨k + 1, ?_, fun w => ?_⟩
      · show (match sameCell (.int .u32 n) (.int .u32 a) with | some true => _ | some false => _ | none => _) = _
        simp only [sameCell, hb, if_true]
        rw [show i + (k + 1) = i + 1 + k by omega]
        exact h1
      · show (match sameCell (.int .u32 n) (.int .u32 a) with | some true => _ | some false => _ | none => _) = _
        simp only [sameCell, hb, if_true]
        rw [show i + (k + 1) = i + 1 + k by omega]
        exact h2 w
theorem gen_last : ∀ (g : List Int) (n : Int) (i : Nat) (w : AV), isGen g n = false → findA (.int .u32 n) (gensA g ++ [(.int .u32 n, w)]) i = some (some (i + g.length, w))
  | [], n, i, w, _ => by
    show (match sameCell (.int .u32 n) (.int .u32 n) with | some true => _ | some false => _ | none => _) = _
    simp only [sameCell, beq_self_eq_true, if_true]
    rfl
  | a :: r, n, i, w, h => by
    unfold isGen at h
    rw [List.any_cons, Bool.or_eq_false_iff] at h
    show (match sameCell (.int .u32 n) (.int .u32 a) with | some true => _ | some false => _ | none => _) = _
    simp only [sameCell, h.1, if_true]
    rw [List.length_cons, show i + (r.length + 1) = i + 1 + r.length by omega]
    exact gen_last r n (i + 1) w h.2
theorem gens_top : ∀ g : List Int, topL ((gensA g).map (·.1)) = 0 ∧ topL ((gensA g).map (·.2)) = 0
  | [] => ⟨rfl, rfl⟩
  | e :: r => by
    obtain ⟨h1, h2⟩ := gens_top r
    constructor
    · show max 0 (topL ((gensA r).map (·.1))) = 0
      rw [h1]
      rfl
    · show max 0 (topL ((gensA r).map (·.2))) = 0
      rw [h2]
      rfl
theorem gmod_top (g : List Int) : ∀ k : Nat, (AB.map ((gensA g).modify k fun e => (e.1, .int .i64 2))).top = 0 := by
  intro k
  refine map_top ?_ ?_
  · induction g generalizing k with
    | nil => cases k <;> rfl
    | cons e r ih =>
      cases k with
      | zero =>
        show max 0 (topL ((gensA r).map (·.1))) = 0
        rw [(gens_top r).1]
        rfl
      | succ k =>
        show max 0 (topL (((gensA r).modify k fun e => (e.1, .int .i64 2)).map (·.1))) = 0
        rw [ih k]
        rfl
  · induction g generalizing k with
    | nil => cases k <;> rfl
    | cons e r ih =>
      cases k with
      | zero =>
        show max 0 (topL ((gensA r).map (·.2))) = 0
        rw [(gens_top r).2]
        rfl
      | succ k =>
        show max 0 (topL (((gensA r).modify k fun e => (e.1, .int .i64 2)).map (·.2))) = 0
        rw [ih k]
        rfl
/-- What is counted: how often each node is named, of how many directories, and where. -/
structure Cnt where
  named : List Int
  subs : List Int
  home : List Int
def bump (l : List Int) (k : Int) : List Int := l.set k.toNat (IntKind.wrap .i64 ((l[k.toNat]?).getD 0 + 1))
def stepE (ns : List NodeS) (i : Int) (c : Cnt) (e : EntryS) : Cnt := ⟨bump c.named e.node, if dirS ns e.node = true then bump c.subs i else c.subs, c.home.set e.node.toNat i⟩
def cntE (ns : List NodeS) (i : Int) : Cnt → List EntryS → Cnt
  | c, [] => c
  | c, e :: r => cntE ns i (stepE ns i c e) r
def Cnt.len (c : Cnt) (n : Nat) : Prop := c.named.length = n ∧ c.subs.length = n ∧ c.home.length = n
theorem bump_len (l : List Int) (k : Int) : (bump l k).length = l.length := by unfold bump; rw [List.length_set]
theorem stepE_len {ns : List NodeS} {i : Int} {c : Cnt} {e : EntryS} {n : Nat} (h : c.len n) : (stepE ns i c e).len n := by
  refine ⟨?_, ?_, ?_⟩
  · show (bump c.named e.node).length = n
    rw [bump_len]; exact h.1
  · show (if dirS ns e.node = true then bump c.subs i else c.subs).length = n
    split
    · rw [bump_len]; exact h.2.1
    · exact h.2.1
  · show (c.home.set e.node.toNat i).length = n
    rw [List.length_set]; exact h.2.2
theorem cntE_drop {ns : List NodeS} {i : Int} {l : List EntryS} {j : Nat} {e : EntryS} {c : Cnt} (h : l[j]? = some e) : cntE ns i c (l.drop j) = cntE ns i (stepE ns i c e) (l.drop (j + 1)) := by
  obtain ⟨h1, rfl⟩ := List.getElem?_eq_some_iff.1 h
  rw [List.drop_eq_getElem_cons h1, cntE]
/-- What is bad about a node, ahead of what is counted. -/
def nodeBad (ns : List NodeS) (tg : Int) (g : List Int) (x : NodeS) : Bool :=
  decide (x.gen ≥ tg) || (isGen g x.gen || (decide (x.mode > 4095) || (!decide (x.rn < 1000000000) || (!decide (x.wn < 1000000000) || (!decide (x.tn < 1000000000) || (x.kind == 2 && !entriesS ns x))))))
def pass1 (ns : List NodeS) (tg : Int) : List NodeS → Int → List Int → Cnt → Option Cnt
  | [], _, _, c => some c
  | x :: r, i, g, c => if (x.kind != 0) = true then if nodeBad ns tg g x = true then none else pass1 ns tg r (i + 1) (g ++ [x.gen]) (cntE ns i c x.ents) else pass1 ns tg r (i + 1) g c
def at0 (l : List Int) (i : Int) : Int := (l[i.toNat]?).getD 0
def nodeBad2 (ns : List NodeS) (c : Cnt) (i : Int) (x : NodeS) : Bool :=
  if (x.kind == 2) = true then x.links != IntKind.wrap .i64 (2 + at0 c.subs i) || (decide (i > 1) && (at0 c.named i != 1 || (at0 c.home i != x.parent || !withinS ns 1 (ns.length + 1) i)))
  else x.links != at0 c.named i || (decide (at0 c.named i < 1) || decide (at0 c.named i > 200))
def pass2 (ns : List NodeS) (c : Cnt) : List NodeS → Int → Bool
  | [], _ => true
  | x :: r, i => if (x.kind != 0) = true then if nodeBad2 ns c i x = true then false else pass2 ns c r (i + 1) else pass2 ns c r (i + 1)
def cnt0 (n : Nat) : Cnt := ⟨List.replicate n 0, List.replicate n 0, List.replicate n 0⟩
def preBad (ns : List NodeS) : Bool := decide ((ns.length : Int) < 2) || (decide ((ns.length : Int) > 1025) || ((kindS ns 0 != 0) || (!dirS ns 1 || ((parentS ns 1 != 1) || !thereS ns (ns.length - 1)))))
/-- May a tree be? -/
def checkS (ns : List NodeS) (tg : Int) : Bool := !preBad ns && (!anyBad ns && (match pass1 ns tg ns 0 [] (cnt0 ns.length) with
  | some c => pass2 ns c ns 0
  | none => false))
theorem pass1_drop {ns : List NodeS} {tg : Int} {l : List NodeS} {i : Int} {x : NodeS} {g : List Int} {c : Cnt} (h0 : 0 ≤ i) (h : l[i.toNat]? = some x) : pass1 ns tg (l.drop i.toNat) i g c = if (x.kind != 0) = true then if nodeBad ns tg g x = true then none else pass1 ns tg (l.drop (i + 1).toNat) (i + 1) (g ++ [x.gen]) (cntE ns i c x.ents) else pass1 ns tg (l.drop (i + 1).toNat) (i + 1) g c := by
  obtain ⟨h1, rfl⟩ := List.getElem?_eq_some_iff.1 h
  rw [List.drop_eq_getElem_cons h1, pass1, show (i + 1).toNat = i.toNat + 1 by omega]
theorem pass2_drop {ns : List NodeS} {l : List NodeS} {i : Int} {x : NodeS} {c : Cnt} (h0 : 0 ≤ i) (h : l[i.toNat]? = some x) : pass2 ns c (l.drop i.toNat) i = if (x.kind != 0) = true then if nodeBad2 ns c i x = true then false else pass2 ns c (l.drop (i + 1).toNat) (i + 1) else pass2 ns c (l.drop (i + 1).toNat) (i + 1) := by
  obtain ⟨h1, rfl⟩ := List.getElem?_eq_some_iff.1 h
  rw [List.drop_eq_getElem_cons h1, pass2, show (i + 1).toNat = i.toNat + 1 by omega]
theorem only_list {x : NodeS} (h : onlyS x = true) (hk : (x.kind == 2) = false) : x.ents = [] := by
  have hl : listO x = true := by
    unfold onlyS at h
    cases h0 : (x.kind == 0) <;> cases h1 : (x.kind == 1) <;> cases h5 : (x.kind == 5) <;> simp_all
  unfold listO at hl
  rw [Bool.and_eq_true] at hl
  have := hl.1
  rw [beq_iff_eq] at this
  exact List.length_eq_zero_iff.1 (by omega)
theorem ents_there {ns : List NodeS} {nx : Int} : ∀ (l prev : List EntryS) (la : Int), entsBad ns nx prev la l = false → ∀ e ∈ l, thereS ns e.node = true
  | [], _, _, _, e, he => by cases he
  | a :: r, prev, la, h, e, he => by
    rw [entsBad, Bool.or_eq_false_iff] at h
    rcases List.mem_cons.1 he with rfl | he
    · have h1 := h.1
      unfold entBad at h1
      simp only [Bool.or_eq_false_iff, Bool.not_eq_false'] at h1
      exact h1.2.2.2.2.2.2.2
    · exact ents_there r _ _ h.2 e he
theorem entries_there {ns : List NodeS} {d : NodeS} (h : entriesS ns d = true) : ∀ e ∈ d.ents, thereS ns e.node = true := by
  unfold entriesS at h
  rw [Bool.and_eq_true, Bool.not_eq_true'] at h
  exact ents_there d.ents [] 2 (by simpa using h.2)
theorem gensA_app (g : List Int) (n : Int) : gensA (g ++ [n]) = gensA g ++ [(.int .u32 n, .int .i64 1)] := by simp [gensA]
theorem ints_put {l : List Int} {k : Nat} {v : Int} (h : k < l.length) : splice (numsA .i64 l) (0 + k * 1) [.int .i64 v] = numsA .i64 (l.set k v) := by
  have := splice_rows (f := fun n : Int => [AV.int .i64 n]) (z := 1) (fun _ => rfl) (l := l) (i := k) (x := l[k]) (x' := v) (k := 0) (vs := [.int .i64 v]) (List.getElem?_eq_getElem h) (Nat.le_refl 1) rfl
  rw [nums_flat, nums_flat, Nat.add_zero] at this
  rw [Nat.zero_add]
  exact this
theorem ints_get {l : List Int} {k : Nat} (h : k < l.length) : (numsA .i64 l)[0 + k * 1]? = some (.int .i64 ((l[k]?).getD 0)) := by
  rw [Nat.zero_add, Nat.mul_one, numsA, List.getElem?_map, List.getElem?_eq_getElem h]
  rfl
theorem nodeA_one {x : NodeS} (hx : x.ok) : oneL (nodeA x) = true := by
  obtain ⟨kd, ge, mo, us, ng, li, xrs, xrn, xws, xwn, ts, tn, da, by_, vf, ta, ls, es, pa, nx⟩ := x
  simp only [NodeS.ok, rowOk, entsOk] at hx
  obtain ⟨hd, hl⟩ := hx
  rcases hd with ⟨rfl, rfl⟩ | ⟨dt, rfl⟩ <;> rcases hl with ⟨rfl, rfl⟩ | ⟨lt, rfl⟩ <;> rfl
theorem nodeA_top0 {x : NodeS} (hx : x.ok) : topL (nodeA x) = 0 := by
  obtain ⟨kd, ge, mo, us, ng, li, xrs, xrn, xws, xwn, ts, tn, da, by_, vf, ta, ls, es, pa, nx⟩ := x
  simp only [NodeS.ok, rowOk, entsOk] at hx
  obtain ⟨hd, hl⟩ := hx
  rcases hd with ⟨rfl, rfl⟩ | ⟨dt, rfl⟩ <;> rcases hl with ⟨rfl, rfl⟩ | ⟨lt, rfl⟩ <;> rfl
theorem ints_len (l : List Int) : (numsA .i64 l).length = l.length := by simp [numsA]
theorem rep_ints (n : Nat) : repCells n [.int .i64 0] = numsA .i64 (List.replicate n 0) := by
  unfold numsA
  rw [List.map_replicate]
  rfl
end Go.Proofs.Ytnkeijebkpjdgaa.Ab
