import Derived.Test.YtnkeijebkpjdgaaMLookKeeps5
import Derived.MapKept
set_option linter.unusedVariables false
set_option linter.unusedSimpArgs false
/- The engine, fourteenth text: copy, len, cap, min, max; maps. -/
namespace Go.Proofs.Ytnkeijebkpjdgaa.Ab
open Go Go.MapKept

section ops
variable {P : Program} {K : KS} {bs : List AB} {w : World}

theorem firstCells_zero {x : Value} {n sz : Nat} (h : (∃ p c, x = .slice p n c) ∨ ∃ s : ByteArray, x = .string s ∧ s.size = n) : (Builtin.firstCells sz 0 x).run P w = .ok #[] w := by
  rcases h with ⟨p, c, rfl⟩ | ⟨s, rfl, _⟩
  · cases p <;> simp [Builtin.firstCells, loadCells, loadCellsFrom]
  · simp [Builtin.firstCells]
theorem copy_sound (hr : HR K bs w.heap) {nid : Nat} {t ty : TypeId} {ts : Array TypeId} (hts : ts[0]? = some t) {d x : AV} {d' x' : Value} (hd : RepV K bs w.heap d d') (hx : RepV K bs w.heap x x') {r : Out}
    (hm : (copyA P t d x).run bs = some r) : ValGood K bs w nid r ((Builtin.copy_ ts ty #[d', x']).run P w) := by
  unfold copyA at hm
  split at hm
  · rename_i e ht
    have := hd.inv_sl0; subst this
    split at hm
    · rename_i sz n hsz hl
      have := ret_run hm; subst this
      obtain ⟨hl1, hl2⟩ := lenOf_sound (P := P) (w := w) hx hl
      refine ⟨_, w, K, ?_, Goes.refl hr, .clean (.int _ _)⟩
      simp only [Builtin.copy_, Sem.run_bind, hts, List.getElem?_toArray, List.getElem?_cons_zero, List.getElem?_cons_succ, run_undA ht, hl1, run_szOf hsz, Result.andThen_ok]
      rw [show Nat.min n 0 = 0 from Nat.min_zero n, firstCells_zero hl2]
      simp [goInt]
    · exact (fail_run hm).elim
  · rename_i e b off m cap ver ht
    split at hm
    · rename_i sz n hsz hl
      obtain ⟨hl1, _⟩ := lenOf_sound (P := P) (w := w) hx hl
      obtain ⟨c, cl, us, hc, hm⟩ := sliceCells_sound (P := P) hr hx hm
      obtain ⟨cs, i, hb, hm⟩ := info_run hm
      split at hm
      · rename_i hcond
        obtain ⟨hv, hw, hlen, hcl⟩ := hcond
        have := ret_run hm; subst this
        obtain ⟨y, o, cp, rfl, q1, q2, q3, q4, q5⟩ := hd.inv_rsl
        obtain rfl := (q5 cs i hb hv).1
        have hcl2 : c.length = min n m * sz := by rw [hc.rep.len, hc.len]
        obtain ⟨K', w', hrun, hg⟩ := goes_put (nid := nid) (off := off) (vs := c) hr P hb hw (by rw [hcl2]; exact hlen) hc.rep hc.one (fun h => by
          rcases hcl with h' | h'
          · rw [h] at h'; cases h'
          · exact hc.clean h')
        have hst : (storeCells ⟨K.β b, o, none⟩ us).run P w = .ok () w' := by
          rcases q4 with q4 | q4
          · have hm0 : m = 0 := by omega
            have hus : us = [] := List.eq_nil_of_length_eq_zero (by rw [hc.len, hm0]; simp)
            rw [hus] at hrun ⊢
            exact hrun
          · rw [q4]; exact hrun
        refine ⟨_, w', K', ?_, hg, .clean (.int _ _)⟩
        have hf := hc.run w rfl
        simp only [Builtin.copy_, Sem.run_bind, hts, List.getElem?_toArray, List.getElem?_cons_zero, List.getElem?_cons_succ, run_undA ht, hl1, run_szOf hsz, Result.andThen_ok]
        rw [show Nat.min n m = min n m from rfl, hf]
        simp only [Result.andThen_ok, hst, Sem.run_pure]
        rfl
      · exact (fail_run hm).elim
    · exact (fail_run hm).elim
  · rename_i e cc m tight ht
    split at hm
    · rename_i sz n hsz hl
      split at hm
      · rename_i h0
        have := ret_run hm; subst this
        obtain ⟨b, o, sp, cap, vs, rfl, q1, q2, q3, q4, q5, q6⟩ := hd.inv_sl
        obtain ⟨hl1, hl2⟩ := lenOf_sound (P := P) (w := w) hx hl
        have hmin : min n m = 0 := by omega
        refine ⟨_, w, K, ?_, Goes.refl hr, .clean (.int _ _)⟩
        have hf := firstCells_zero (P := P) (w := w) (sz := sz) hl2
        simp only [Builtin.copy_, Sem.run_bind, hts, List.getElem?_toArray, List.getElem?_cons_zero, List.getElem?_cons_succ, run_undA ht, hl1, run_szOf hsz, Result.andThen_ok]
        rw [show Nat.min n m = 0 from hmin, hf]
        simp [storeCells, goInt]
      · exact (fail_run hm).elim
    · exact (fail_run hm).elim
  · exact (fail_run hm).elim

theorem len_sound (hr : HR K bs w.heap) {nid : Nat} {t ty : TypeId} {ts : Array TypeId} (hts : ts[0]? = some t) {x : AV} {x' : Value} (hx : RepV K bs w.heap x x') {r : Out}
    (hm : (lenA P t x).run bs = some r) : ValGood K bs w nid r ((Builtin.len_ ts ty #[x']).run P w) := by
  unfold lenA at hm
  split at hm
  · rename_i s ht
    have := ret_run hm; subst this
    obtain ⟨u, rfl, hu⟩ := hx.inv_str
    refine ⟨_, w, K, ?_, Goes.refl hr, .clean (.int _ _)⟩
    simp [Builtin.len_, hts, run_undA ht, goInt, bytes_size hu]
  · rename_i n e ht
    have := ret_run hm; subst this
    refine ⟨_, w, K, ?_, Goes.refl hr, .clean (.int _ _)⟩
    simp [Builtin.len_, hts, run_undA ht, goInt]
  · rename_i e ht
    split at hm
    · exact (fail_run hm).elim
    · rename_i hs
      split at hm
      · rename_i n hl
        have := ret_run hm; subst this
        obtain ⟨p, c, rfl⟩ := lenOf_slice hx hl (fun s h => hs s h)
        obtain ⟨_, h2⟩ := lenOf_sound (P := P) (w := w) hx hl
        refine ⟨_, w, K, ?_, Goes.refl hr, .clean (.int _ _)⟩
        simp [Builtin.len_, hts, run_undA ht, goInt]
      · exact (fail_run hm).elim
  · rename_i kt et ht
    have := ret_run hm; subst this
    have := hx.inv_map0; subst this
    refine ⟨_, w, K, ?_, Goes.refl hr, .clean (.int _ _)⟩
    simp [Builtin.len_, hts, run_undA ht, goInt]
  · rename_i kt et b ht
    obtain ⟨y, hb, hm⟩ := blk_run hm
    split at hm
    · rename_i es
      have := ret_run hm; subst this
      obtain ⟨z, rfl, hz⟩ := hx.inv_mref
      obtain rfl := hz es hb
      obtain ⟨o, ho, hR⟩ := hr.obj b _ hb rfl
      obtain ⟨ces, cl, rfl, h1, h2, h3⟩ := hR
      refine ⟨_, w, K, ?_, Goes.refl hr, .clean (.int _ _)⟩
      have hlen := h1.len
      simp at hlen
      simp [Builtin.len_, hts, run_undA ht, goInt, run_getObj_map ho, hlen]
    · exact (fail_run hm).elim
  · exact (fail_run hm).elim
theorem cap_sound (hr : HR K bs w.heap) {nid : Nat} {t ty : TypeId} {ts : Array TypeId} (hts : ts[0]? = some t) {x : AV} {x' : Value} (hx : RepV K bs w.heap x x') {r : Out}
    (hm : (capA P t x).run bs = some r) : ValGood K bs w nid r ((Builtin.cap_ ts ty #[x']).run P w) := by
  unfold capA at hm
  split at hm
  · rename_i e ht
    have := ret_run hm; subst this
    have := hx.inv_sl0; subst this
    refine ⟨_, w, K, ?_, Goes.refl hr, .clean (.int _ _)⟩
    simp [Builtin.cap_, hts, run_undA ht, goInt]
  · rename_i e c n ht
    have := ret_run hm; subst this
    obtain ⟨b, o, sp, cap, vs, rfl, q1, q2, q3, q4, q5, q6⟩ := hx.inv_sl
    have := q2 rfl
    refine ⟨_, w, K, ?_, Goes.refl hr, .clean (.int _ _)⟩
    simp [Builtin.cap_, hts, run_undA ht, goInt, this]
  · rename_i e b off n c ver ht
    have := ret_run hm; subst this
    obtain ⟨y, o, cp, rfl, q1, q2, q3, q4, q5⟩ := hx.inv_rsl
    have := q3 _ rfl
    refine ⟨_, w, K, ?_, Goes.refl hr, .clean (.int _ _)⟩
    simp [Builtin.cap_, hts, run_undA ht, goInt, this]
  · exact (fail_run hm).elim

theorem min2_sound {hp : Array Obj} {a b r : AV} {x y : Value} (ha : RepV K bs hp a x) (hb : RepV K bs hp b y) (h : minA a b = some r) : ∃ v, (Builtin.min2 x y).run P w = .ok v w ∧ RepV K bs hp r v := by
  unfold minA at h
  split at h
  · cases h
    have := ha.inv_int; subst this
    have := hb.inv_int; subst this
    exact ⟨_, rfl, .clean (.int _ _)⟩
  · cases h
theorem max2_sound {hp : Array Obj} {a b r : AV} {x y : Value} (ha : RepV K bs hp a x) (hb : RepV K bs hp b y) (h : maxA a b = some r) : ∃ v, (Builtin.max2 x y).run P w = .ok v w ∧ RepV K bs hp r v := by
  unfold maxA at h
  split at h
  · cases h
    have := ha.inv_int; subst this
    have := hb.inv_int; subst this
    exact ⟨_, rfl, .clean (.int _ _)⟩
  · cases h
theorem fold_sound {hp : Array Obj} {f : AV → AV → Option AV} {g : Value → Value → Sem Value} (hf : ∀ {a b r : AV} {x y : Value}, RepV K bs hp a x → RepV K bs hp b y → f a b = some r → ∃ v, (g x y).run P w = .ok v w ∧ RepV K bs hp r v) :
    ∀ {l : List AV} {vs : List Value} {a r : AV} {x : Value}, RepV K bs hp a x → RepVL K bs hp l vs → foldA f a l = some r → ∃ v, (vs.foldlM g x).run P w = .ok v w ∧ RepV K bs hp r v
  | [], vs, a, r, x, ha, hl, h => by
    cases hl
    unfold foldA at h
    split at h
    · cases h
      exact ⟨x, by simp, ha⟩
    · cases h
  | b :: l, vs, a, r, x, ha, hl, h => by
    cases hl with
    | cons h0 hl =>
      simp only [foldA] at h
      cases hz : f a b with
      | none => simp [hz] at h
      | some z =>
        simp only [hz, Option.bind_some] at h
        obtain ⟨v, hv, hR⟩ := hf ha h0 hz
        obtain ⟨u, hu, hR2⟩ := fold_sound hf hR hl h
        exact ⟨u, by simp only [List.foldlM_cons, Sem.run_bind, hv, Result.andThen_ok, hu], hR2⟩

/-! Maps -/
theorem sameCell_true {a b : AV} (h : sameCell a b = some true) : a = b := by
  unfold sameCell at h
  split at h
  · simp at h; rw [h]
  · split at h
    · rename_i he
      simp at h
      rw [he, h]
    · cases h
  · simp at h; rw [h]
  · cases h
theorem keyOk_is {hp : Array Obj} {t : TypeId} {a : AV} {x : Value} (ha : RepV K bs hp a x) (h : keyOk P t a = true) : ∃ d, P.underlying t = some d ∧ IsKey d x := by
  unfold keyOk at h
  split at h
  · rename_i k k' n hd
    have := ha.inv_int; subst this
    exact ⟨_, hd, by simpa [IsKey] using h⟩
  · rename_i s hd
    obtain ⟨t, rfl, _⟩ := ha.inv_str
    exact ⟨_, hd, trivial⟩
  · rename_i hd
    have := ha.inv_bool; subst this
    exact ⟨_, hd, trivial⟩
  · cases h
theorem sameNow_of {d : TypeDesc} {x y : Value} {s : Bool} (hk : IsKey d x) (h : sameCellV x y = some s) : Instr.sameNow d x y = some s := by
  cases d <;> cases x <;> simp only [IsKey] at hk <;> cases y <;> simp_all [sameCellV, Instr.sameNow]
theorem find_sound {hp : Array Obj} {d : TypeDesc} {k : AV} {k' : Value} (hk : RepV K bs hp k k') (hd : IsKey d k') : ∀ {es : List (AV × AV)} {ces : List MapEntry} {i : Nat} {r : Option (Nat × AV)},
    RepVL K bs hp (es.map (·.1)) (ces.map (·.key)) → RepVL K bs hp (es.map (·.2)) (ces.map (·.val)) → findA k es i = some r →
    ∃ r', Instr.findNow d k' ces i = some r' ∧ (match r with
      | none => r' = none
      | some (j, a) => ∃ v e, r' = some (j, v) ∧ RepV K bs hp a v ∧ i ≤ j ∧ es[j - i]? = some (k, e) ∧ j - i < ces.length)
  | [], ces, i, r, h1, h2, h => by
    cases ces with
    | cons _ _ => cases h1
    | nil =>
      simp [findA] at h
      subst h
      exact ⟨none, rfl, rfl⟩
  | e :: es, ces, i, r, h1, h2, h => by
    cases ces with
    | nil => cases h1
    | cons c ces =>
      simp only [List.map_cons] at h1 h2
      cases h1 with
      | cons a1 h1 =>
        cases h2 with
        | cons a2 h2 =>
          simp only [findA] at h
          split at h
          · rename_i hs
            cases h
            have := sameNow_of hd (sameCell_sound hk a1 hs)
            refine ⟨_, by simp only [Instr.findNow, this], _, e.2, rfl, a2, Nat.le_refl _, ?_, by simp⟩
            have := sameCell_true hs
            simp [this]
          · rename_i hs
            have := sameNow_of hd (sameCell_sound hk a1 hs)
            obtain ⟨r', hr', hR⟩ := find_sound hk hd h1 h2 h
            refine ⟨r', by simp only [Instr.findNow, this, hr'], ?_⟩
            split at hR
            · exact hR
            · obtain ⟨v, e2, g1, g2, g3, g4, g5⟩ := hR
              rename_i j a
              refine ⟨v, e2, g1, g2, by omega, ?_, ?_⟩
              · rw [show j - i = (j - (i + 1)) + 1 by omega]; simpa using g4
              · simp; omega
          · cases h

theorem lookup_sound (hr : HR K bs w.heap) {nid : Nat} {t : TypeId} {m k : AV} {m' k' : Value} {ok : Bool} (hm' : RepV K bs w.heap m m') (hk : RepV K bs w.heap k k') {r : Out}
    (hm : (lookupA P t m k ok).run bs = some r) : ValGood K bs w nid r ((Instr.lookup t m' k' ok).run P w) := by
  obtain ⟨N, hN⟩ : ∃ N, 10000 = N + 1 := ⟨9999, rfl⟩
  unfold lookupA at hm
  split at hm
  · rename_i kt et ht
    split at hm
    · rename_i z hz
      have hz' : ∃ i v, P.info? et = some i ∧ i.zero = some v ∧ RepV K bs w.heap z v := by
        unfold zeroA at hz
        cases hi : P.info? et with
        | none => simp [hi] at hz
        | some i =>
          simp only [hi, Option.bind_some] at hz
          cases hv : i.zero with
          | none => simp [hv] at hz
          | some v =>
            simp only [hv, Option.map_some, Option.some.injEq] at hz
            subst hz
            exact ⟨i, v, rfl, hv, .clean (ofValue_rep _ _ _)⟩
      obtain ⟨i, zv, hi, hzv, hzr⟩ := hz'
      have hzrun := run_zero (w := w) hi hzv
      split at hm
      · rename_i hkey
        obtain ⟨d, hd, hik⟩ := keyOk_is (P := P) hk hkey
        split at hm
        · have := hm'.inv_map0; subst this
          have := ret_run hm; subst this
          refine ⟨if ok then .tuple #[zv, .bool false] else zv, w, K, ?_, Goes.refl hr, ?_⟩
          · simp only [Instr.lookup, Sem.run_bind, Sem.run_pure, run_undA ht, Result.andThen_ok]
            rw [hN, run_checkKey hd hik]
            simp only [Result.andThen_ok]
            rw [run_findKey hd (a := none) (by rfl)]
            simp only [Result.andThen_ok, Sem.run_bind, hzrun, Sem.run_pure]
          · cases ok
            · exact hzr
            · exact .tup (.cons hzr (.cons (.clean (.bool _)) .nil))
        · rename_i b
          obtain ⟨y, hb, hm⟩ := blk_run hm
          split at hm
          · rename_i es
            obtain ⟨x, rfl, hx⟩ := hm'.inv_mref
            obtain rfl := hx es hb
            obtain ⟨o, ho, hR⟩ := hr.obj b _ hb rfl
            obtain ⟨ces, cl, rfl, h1, h2, h3⟩ := hR
            split at hm
            · rename_i j v hf
              have := ret_run hm; subst this
              obtain ⟨r', hr', u, e, rfl, hu, _⟩ := find_sound hk hik h1 h2 hf
              refine ⟨if ok then .tuple #[u, .bool true] else u, w, K, ?_, Goes.refl hr, ?_⟩
              · simp only [Instr.lookup, Sem.run_bind, Sem.run_pure, run_undA ht, Result.andThen_ok, run_getObj_map ho]
                rw [hN, run_checkKey hd hik]
                simp only [Result.andThen_ok]
                rw [run_findKey hd hr']
                simp only [Result.andThen_ok, Sem.run_bind, Sem.run_pure]
              · cases ok
                · exact hu
                · exact .tup (.cons hu (.cons (.clean (.bool _)) .nil))
            · rename_i hf
              have := ret_run hm; subst this
              obtain ⟨r', hr', hn⟩ := find_sound hk hik h1 h2 hf
              simp only at hn
              subst hn
              refine ⟨if ok then .tuple #[zv, .bool false] else zv, w, K, ?_, Goes.refl hr, ?_⟩
              · simp only [Instr.lookup, Sem.run_bind, Sem.run_pure, run_undA ht, Result.andThen_ok, run_getObj_map ho]
                rw [hN, run_checkKey hd hik]
                simp only [Result.andThen_ok]
                rw [run_findKey hd hr']
                simp only [Result.andThen_ok, Sem.run_bind, hzrun, Sem.run_pure]
              · cases ok
                · exact hzr
                · exact .tup (.cons hzr (.cons (.clean (.bool _)) .nil))
            · exact (fail_run hm).elim
          · exact (fail_run hm).elim
        · exact (fail_run hm).elim
      · exact (fail_run hm).elim
    · exact (fail_run hm).elim
  · exact (fail_run hm).elim

theorem map_modify {α β : Type} {l : List α} {i : Nat} {f : α → α} {g : α → β} {c : β} (h : ∀ x, l[i]? = some x → g (f x) = c) : (l.modify i f).map g = (l.map g).set i c := by
  apply List.ext_getElem?
  intro j
  rw [List.getElem?_map, List.getElem?_modify, List.getElem?_set, List.getElem?_map]
  by_cases hj : i = j
  · subst hj
    cases hx : l[i]? with
    | none =>
      have := List.getElem?_eq_none_iff.1 hx
      simp
      omega
    | some x =>
      have := (List.getElem?_eq_some_iff.1 hx).1
      simp [h x hx, this]
  · cases hx : l[j]? <;> simp [hj]
theorem map_erase {α β : Type} (g : α → β) : ∀ (l : List α) (i : Nat), (l.eraseIdx i).map g = (l.map g).eraseIdx i
  | [], _ => by simp
  | a :: l, 0 => by simp
  | a :: l, i + 1 => by simp [map_erase g l i]
theorem goes_map (hr : HR K bs w.heap) {b : Nat} {es es' : List (AV × AV)} {ces : Array MapEntry} {cl : Nat} {ces' : Array MapEntry} {cl' : Nat} (hb : bs[b]? = some (.map es)) (ho : w.heap[K.β b]? = some (.map ces cl))
    (hk : RepVL K bs w.heap (es'.map (·.1)) (ces'.toList.map (·.key))) (hv : RepVL K bs w.heap (es'.map (·.2)) (ces'.toList.map (·.val))) (hn : ∀ e ∈ ces'.toList, e.born < cl') :
    ∃ K', Goes K bs w K' (bs.set b (.map es')) { w with heap := w.heap.setIfInBounds (K.β b) (.map ces' cl') } := by
  have hlt := (List.getElem?_eq_some_iff.1 hb).1
  have hlt2 := (Array.getElem?_eq_some_iff.1 ho).1
  have u : Upd K bs w.heap b (K.β b) (K.κ b) (.map es') (.map ces' cl') (bs.set b (.map es')) (w.heap.setIfInBounds (K.β b) (.map ces' cl')) :=
    ⟨by simp [hlt], fun d hd => by rw [List.getElem?_set, if_neg (fun e => hd e.symm)], by simp, by simp [hlt2], fun d _ hd => by rw [Array.getElem?_setIfInBounds_ne (fun e => hd e.symm)],
      .inr (.inr ⟨_, hb, rfl, trivial, Nat.le_refl _, fun _ => ⟨rfl, rfl⟩⟩), .inr ⟨rfl, _, hb, rfl⟩, rfl, rfl, ces', cl', rfl, hk, hv, hn⟩
  exact ⟨_, u.tr hr, u.hr hr, rfl, rfl, rfl⟩
theorem mapUpdate_sound (hr : HR K bs w.heap) {nid : Nat} {t : TypeId} {m k v : AV} {m' k' v' : Value} (hm' : RepV K bs w.heap m m') (hk : RepV K bs w.heap k k') (hv : RepV K bs w.heap v v') {r : Out}
    (hm : (mapUpdateA P t m k v).run bs = some r) : ∃ K' w', (Instr.mapUpdate t m' k' v').run P w = .ok () w' ∧ Goes K bs w K' (appBs bs nid r.2) w' ∧ r.1 = .tup [] := by
  obtain ⟨N, hN⟩ : ∃ N, 10000 = N + 1 := ⟨9999, rfl⟩
  unfold mapUpdateA at hm
  split at hm
  · rename_i kt et b ht
    split at hm
    · rename_i hkey
      obtain ⟨d, hd, hik⟩ := keyOk_is (P := P) hk hkey
      obtain ⟨y, hb, hm⟩ := blk_run hm
      split at hm
      · rename_i es
        obtain ⟨x, rfl, hx⟩ := hm'.inv_mref
        obtain rfl := hx es hb
        obtain ⟨o, ho, hR⟩ := hr.obj b _ hb rfl
        obtain ⟨ces, cl, rfl, h1, h2, h3⟩ := hR
        split at hm
        · rename_i es' hset
          have := ret_run hm; subst this
          unfold mapSetA at hset
          split at hset
          · rename_i j e hf
            cases hset
            obtain ⟨r', hr', u, e2, rfl, hu, _, hg, hlt⟩ := find_sound hk hik h1 h2 hf
            rw [Nat.sub_zero] at hg hlt
            have hcj : j < ces.size := by simpa using hlt
            have hck : (ces[j]).key = k' := by
              have hek : (es.map (·.1))[j]? = some k := by simp [hg]
              obtain ⟨v1, hv1, hR1⟩ := h1.get hek
              simp [hcj] at hv1
              subst hv1
              have := keyOk_is (P := P) hk hkey
              have hcl : k.clean = true := by
                unfold keyOk at hkey
                split at hkey <;> first | rfl | cases hkey
              unfold keyOk at hkey
              split at hkey
              · rw [hR1.inv_int, hk.inv_int]
              · obtain ⟨t1, e1, g1⟩ := hR1.inv_str
                obtain ⟨t2, e2, g2⟩ := hk.inv_str
                rw [e1, e2]
                congr 1
                obtain ⟨⟨x1⟩⟩ := t1
                obtain ⟨⟨x2⟩⟩ := t2
                simp at g1 g2
                rw [g1, g2]
              · rw [hR1.inv_bool, hk.inv_bool]
              · cases hkey
            obtain ⟨K', hg2⟩ := goes_map (es' := es.modify j fun e => (e.1, v)) (ces' := ces.modify j fun e => { e with key := k', val := v' }) (cl' := cl) hr hb ho
              (by
                rw [map_modify (c := k) (fun x hx => by rw [hg] at hx; cases hx; rfl), Array.toList_modify, map_modify (c := k') (fun x hx => rfl)]
                exact h1.set j hk)
              (by
                rw [map_modify (c := v) (fun x hx => rfl), Array.toList_modify, map_modify (c := v') (fun x hx => rfl)]
                exact h2.set j hv)
              (fun e he => by
                rw [Array.toList_modify] at he
                obtain ⟨q, hq⟩ := List.getElem?_of_mem he
                rw [List.getElem?_modify] at hq
                cases hq2 : ces.toList[q]? with
                | none => simp [hq2] at hq
                | some z =>
                  have hz := h3 z (List.mem_of_getElem? hq2)
                  rw [hq2] at hq
                  simp at hq
                  split at hq <;> (subst hq; exact hz))
            refine ⟨K', _, ?_, hg2, rfl⟩
            simp only [Instr.mapUpdate, Sem.run_bind, run_undA ht, Result.andThen_ok, run_getObj_map ho]
            rw [hN, run_checkKey hd hik]
            simp only [Result.andThen_ok]
            rw [run_findKey hd hr']
            have hk2 : (((ces[j]?).map (·.key)).getD k') = k' := by simp [hcj, hck]
            simp only [Result.andThen_ok, Sem.run_bind, hk2, run_keyThatStays hik, run_setObj_map _ ho]
          · rename_i hf
            cases hset
            obtain ⟨r', hr', hn⟩ := find_sound hk hik h1 h2 hf
            simp only at hn
            subst hn
            obtain ⟨K', hg2⟩ := goes_map (es' := es ++ [(k, v)]) (ces' := ces.push { key := k', val := v', born := cl }) (cl' := cl + 1) hr hb ho
              (by simpa using h1.app (.cons hk .nil)) (by simpa using h2.app (.cons hv .nil))
              (fun e he => by
                simp at he
                rcases he with he | rfl
                · have := h3 e (by simpa using he); omega
                · simp)
            refine ⟨K', _, ?_, hg2, rfl⟩
            simp only [Instr.mapUpdate, Sem.run_bind, run_undA ht, Result.andThen_ok, run_getObj_map ho]
            rw [hN, run_checkKey hd hik]
            simp only [Result.andThen_ok]
            rw [run_findKey hd hr']
            simp only [Result.andThen_ok, run_setObj_map _ ho]
          · cases hset
        · exact (fail_run hm).elim
      · exact (fail_run hm).elim
    · exact (fail_run hm).elim
  · exact (fail_run hm).elim
theorem delete_sound (hr : HR K bs w.heap) {nid : Nat} {t ty : TypeId} {ts : Array TypeId} (hts : ts[0]? = some t) {m k : AV} {m' k' : Value} (hm' : RepV K bs w.heap m m') (hk : RepV K bs w.heap k k') {r : Out}
    (hm : (deleteA P t m k).run bs = some r) : ValGood K bs w nid r ((Builtin.delete_ ts ty #[m', k']).run P w) := by
  obtain ⟨N, hN⟩ : ∃ N, 10000 = N + 1 := ⟨9999, rfl⟩
  unfold deleteA at hm
  split at hm
  · rename_i kt et ht
    split at hm
    · rename_i hkey
      obtain ⟨d, hd, hik⟩ := keyOk_is (P := P) hk hkey
      have := ret_run hm; subst this
      have := hm'.inv_map0; subst this
      refine ⟨_, w, K, ?_, Goes.refl hr, .tup .nil⟩
      simp only [Builtin.delete_, Sem.run_bind, hts, List.getElem?_toArray, List.getElem?_cons_zero, List.getElem?_cons_succ, run_undA ht, Result.andThen_ok]
      rw [hN, run_checkKey hd hik]
      simp
    · exact (fail_run hm).elim
  · rename_i kt et b ht
    split at hm
    · rename_i hkey
      obtain ⟨d, hd, hik⟩ := keyOk_is (P := P) hk hkey
      obtain ⟨y, hb, hm⟩ := blk_run hm
      split at hm
      · rename_i es
        obtain ⟨x, rfl, hx⟩ := hm'.inv_mref
        obtain rfl := hx es hb
        obtain ⟨o, ho, hR⟩ := hr.obj b _ hb rfl
        obtain ⟨ces, cl, rfl, h1, h2, h3⟩ := hR
        split at hm
        · rename_i j v hf
          have := ret_run hm; subst this
          obtain ⟨r', hr', u, e2, rfl, hu, _⟩ := find_sound hk hik h1 h2 hf
          obtain ⟨K', hg2⟩ := goes_map (es' := es.eraseIdx j) (ces' := ces.eraseIdxIfInBounds j) (cl' := cl) hr hb ho
            (by rw [Array.toList_eraseIdxIfInBounds, map_erase, map_erase]; exact h1.erase j) (by rw [Array.toList_eraseIdxIfInBounds, map_erase, map_erase]; exact h2.erase j)
            (fun e he => h3 e (by rw [Array.toList_eraseIdxIfInBounds] at he; exact List.mem_of_mem_eraseIdx he))
          refine ⟨_, _, K', ?_, hg2, .tup .nil⟩
          simp only [Builtin.delete_, Sem.run_bind, hts, List.getElem?_toArray, List.getElem?_cons_zero, List.getElem?_cons_succ, run_undA ht, Result.andThen_ok, run_getObj_map ho]
          rw [hN, run_checkKey hd hik]
          simp only [Result.andThen_ok]
          rw [run_findKey hd hr']
          simp only [Result.andThen_ok, Sem.run_bind, run_setObj_map _ ho, Sem.run_pure]
        · rename_i hf
          have := ret_run hm; subst this
          obtain ⟨r', hr', hn⟩ := find_sound hk hik h1 h2 hf
          simp only at hn
          subst hn
          have hsame : w.heap.setIfInBounds (K.β b) (.map ces cl) = w.heap := by
            apply Array.ext_getElem?
            intro j
            rw [Array.getElem?_setIfInBounds]
            split
            · rename_i hj
              subst hj
              rw [ho]
              simp [(Array.getElem?_eq_some_iff.1 ho).1]
            · rfl
          refine ⟨_, w, K, ?_, Goes.refl hr, .tup .nil⟩
          simp only [Builtin.delete_, Sem.run_bind, hts, List.getElem?_toArray, List.getElem?_cons_zero, List.getElem?_cons_succ, run_undA ht, Result.andThen_ok, run_getObj_map ho]
          rw [hN, run_checkKey hd hik]
          simp only [Result.andThen_ok]
          rw [run_findKey hd hr']
          simp only [Result.andThen_ok, Sem.run_bind, run_setObj_map _ ho, Sem.run_pure, hsame]
        · exact (fail_run hm).elim
      · exact (fail_run hm).elim
    · exact (fail_run hm).elim
  · exact (fail_run hm).elim
theorem makeMap_sound (hr : HR K bs w.heap) {nid : Nat} (hn : nid = bs.length ∨ bs[nid]? = some .void) {t : TypeId} {h : Option Value} (hh : h = none ∨ ∃ kt et k n, P.underlying t = some (.map kt et) ∧ h = some (.int k n)) :
    ValGood K bs w nid (.mref nid, .new (.map [])) ((Instr.makeMap t h).run P w) := by
  obtain ⟨K', hg, h1, h2⟩ := goes_new (k := 0) hr hn (x := .map []) (o := .map #[] 0) rfl ⟨#[], 0, rfl, .nil, .nil, fun e he => by simp at he⟩
  refine ⟨.map (some w.heap.size), _, K', ?_, hg, .mref ⟨_, (app_new_get bs nid _ hn).1, rfl, fun _ => Nat.zero_le _⟩ fun es he => h1.symm⟩
  rcases hh with rfl | ⟨kt, et, k, n, ht, rfl⟩
  · simp [Instr.makeMap, Result.andThen]
    try rfl
  · simp [Instr.makeMap, run_undA ht, asInt, asIntOf, Result.andThen]
    try rfl
end ops
end Go.Proofs.Ytnkeijebkpjdgaa.Ab
/- The engine, fifteenth text: every operation is sound. -/
namespace Go.Proofs.Ytnkeijebkpjdgaa.Ab
open Go

section ops
variable {P : Program} {K : KS} {bs : List AB} {w : World}

theorem ValGood.op {nid : Nat} {x : Out} {s : Sem Value} (h : ValGood K bs w nid x (s.run P w)) : OpGood K bs w nid x ((do pure (Next.value (← s)) : Sem Next).run P w) := by
  obtain ⟨v, w', K', h1, h2, h3⟩ := h
  exact ⟨v, w', K', by simp [h1, outVal], h2, h3⟩
theorem valOf (hr : HR K bs w.heap) {nid : Nat} {a : Option AV} {r : Out} {x : Result Value} (hm : (pur a).run bs = some r) (h : ∀ b, a = some b → ∃ v, x = .ok v w ∧ RepV K bs w.heap b v) : ValGood K bs w nid r x := by
  obtain ⟨b, hb, rfl⟩ := pur_run hm
  obtain ⟨v, hx, hR⟩ := h b hb
  exact ⟨v, w, K, hx, Goes.refl hr, hR⟩
theorem skipOf {nid : Nat} {r : Out} {s : Sem Unit} (h : ∃ K' w', s.run P w = .ok () w' ∧ Goes K bs w K' (appBs bs nid r.2) w' ∧ r.1 = .tup []) : OpGood K bs w nid r ((do s; pure Next.skip : Sem Next).run P w) := by
  obtain ⟨K', w', h1, h2, h3⟩ := h
  refine ⟨undef, w', K', by simp [h1, outVal], h2, ?_⟩
  rw [h3]
  exact .tup .nil
theorem repO {hp : Array Obj} {ρ : Operand → AV} {ρ' : Operand → Value} (hρ : ∀ x, RepV K bs hp (ρ x) (ρ' x)) (o : Option Operand) : RepO K bs hp (o.map ρ) (o.map ρ') := by
  cases o with
  | none => trivial
  | some x => exact hρ x
theorem args2 {α β : Type} {l : Array α} {f : α → β} {a b : β} (h : l.toList.map f = [a, b]) : ∃ x y, l = #[x, y] ∧ f x = a ∧ f y = b := by
  obtain ⟨l⟩ := l
  cases l with
  | nil => simp at h
  | cons x l =>
    cases l with
    | nil => simp at h
    | cons y l =>
      cases l with
      | nil => simp at h; exact ⟨x, y, rfl, h.1, h.2⟩
      | cons z l => simp at h
theorem args1 {α β : Type} {l : Array α} {f : α → β} {a : β} (h : l.toList.map f = [a]) : ∃ x, l = #[x] ∧ f x = a := by
  obtain ⟨l⟩ := l
  cases l with
  | nil => simp at h
  | cons x l =>
    cases l with
    | nil => simp at h; exact ⟨x, rfl, h⟩
    | cons y l => simp at h
theorem argsn {α β : Type} {l : Array α} {f : α → β} {a : β} {r : List β} (h : l.toList.map f = a :: r) : ∃ x q, l.toList = x :: q ∧ f x = a ∧ q.map f = r := by
  obtain ⟨l⟩ := l
  cases l with
  | nil => simp at h
  | cons x l => simp at h; exact ⟨x, l, rfl, h.1, h.2⟩

theorem builtin_sound (hr : HR K bs w.heap) {nid : Nat} (hn : nid = bs.length ∨ bs[nid]? = some .void) {b : Builtin} {ts : Array TypeId} {ty : TypeId} {cs : Array Bool} {args : Array Operand} {ρ : Operand → AV} {ρ' : Operand → Value} (hρ : ∀ x, RepV K bs w.heap (ρ x) (ρ' x)) {r : Out}
    (hm : (builtinA P nid b ts.toList (args.toList.map ρ)).run bs = some r) : OpGood K bs w nid r ((builtin b ts ty cs (args.map ρ')).run P w) := by
  unfold builtinA at hm
  split at hm
  · rename_i b ts' args' t rest s x hts hargs
    obtain ⟨p, q, rfl, rfl, rfl⟩ := args2 hargs
    have h0 : ts[0]? = some t := by rw [← Array.getElem?_toList, hts]; rfl
    have h1 : rest.head? = ts[1]? := by rw [← Array.getElem?_toList, hts]; cases rest <;> rfl
    rw [show (#[p, q] : Array Operand).map ρ' = #[ρ' p, ρ' q] by simp]
    exact (append_sound hr hn h0 h1 (hρ p) (hρ q) hm).op
  · rename_i b ts' args' t rest d x hts hargs
    obtain ⟨p, q, rfl, rfl, rfl⟩ := args2 hargs
    have h0 : ts[0]? = some t := by rw [← Array.getElem?_toList, hts]; rfl
    rw [show (#[p, q] : Array Operand).map ρ' = #[ρ' p, ρ' q] by simp]
    exact (copy_sound hr h0 (hρ p) (hρ q) hm).op
  · rename_i b ts' args' t rest x hts hargs
    obtain ⟨p, rfl, rfl⟩ := args1 hargs
    have h0 : ts[0]? = some t := by rw [← Array.getElem?_toList, hts]; rfl
    rw [show (#[p] : Array Operand).map ρ' = #[ρ' p] by simp]
    exact (len_sound hr h0 (hρ p) hm).op
  · rename_i b ts' args' t rest x hts hargs
    obtain ⟨p, rfl, rfl⟩ := args1 hargs
    have h0 : ts[0]? = some t := by rw [← Array.getElem?_toList, hts]; rfl
    rw [show (#[p] : Array Operand).map ρ' = #[ρ' p] by simp]
    exact (cap_sound hr h0 (hρ p) hm).op
  · rename_i b ts' args' x rest hargs
    obtain ⟨p, q, hl, rfl, rfl⟩ := argsn hargs
    refine (valOf hr hm fun v hv => ?_ : ValGood K bs w nid r ((Builtin.min_ ts ty (args.map ρ')).run P w)).op
    obtain ⟨u, hu, hR⟩ := fold_sound (P := P) (w := w) (g := Builtin.min2) min2_sound (hρ p) (RepVL.map fun x _ => hρ x) hv
    refine ⟨u, ?_, hR⟩
    simp only [Builtin.min_, Array.toList_map, hl, List.map_cons]
    exact hu
  · rename_i b ts' args' x rest hargs
    obtain ⟨p, q, hl, rfl, rfl⟩ := argsn hargs
    refine (valOf hr hm fun v hv => ?_ : ValGood K bs w nid r ((Builtin.max_ ts ty (args.map ρ')).run P w)).op
    obtain ⟨u, hu, hR⟩ := fold_sound (P := P) (w := w) (g := Builtin.max2) max2_sound (hρ p) (RepVL.map fun x _ => hρ x) hv
    refine ⟨u, ?_, hR⟩
    simp only [Builtin.max_, Array.toList_map, hl, List.map_cons]
    exact hu
  · rename_i b ts' args' t rest m k hts hargs
    obtain ⟨p, q, rfl, rfl, rfl⟩ := args2 hargs
    have h0 : ts[0]? = some t := by rw [← Array.getElem?_toList, hts]; rfl
    rw [show (#[p, q] : Array Operand).map ρ' = #[ρ' p, ρ' q] by simp]
    exact (delete_sound hr h0 (hρ p) (hρ q) hm).op
  · exact (fail_run hm).elim

theorem evOp_sound (hr : HR K bs w.heap) {nid : Nat} (hn : nid = bs.length ∨ bs[nid]? = some .void) {flat : TypeId → Option (List Nat)} (hf : ∀ t ks, flat t = some ks → FlatTy P t ks) {o : Oper} {ρ : Operand → AV} {ρ' : Operand → Value} (hρ : ∀ x, RepV K bs w.heap (ρ x) (ρ' x)) {r : Out}
    (hm : (evOp P flat nid o.op ρ).run bs = some r) : OpGood K bs w nid r ((execOp ρ' o).run P w) := by
  obtain ⟨dst, op, type, pos, after, guard⟩ := o
  cases op with
  | move x =>
    have := ret_run hm; subst this
    exact ⟨_, w, K, rfl, Goes.refl hr, hρ x⟩
  | assign x =>
    have := ret_run hm; subst this
    exact ⟨_, w, K, rfl, Goes.refl hr, hρ x⟩
  | pick c a b =>
    simp only [evOp] at hm
    split at hm
    · rename_i t hc
      have := ret_run hm; subst this
      have hcc := hρ c
      rw [hc] at hcc
      have hcb := hcc.inv_bool
      refine ⟨if t then ρ' a else ρ' b, w, K, ?_, Goes.refl hr, pick_sound (hρ a) (hρ b)⟩
      simp only [execOp, hcb, asBool, Sem.run_bind, Sem.run_pure, Result.andThen_ok, outVal]
    · exact (fail_run hm).elim
  | alloc e =>
    simp only [evOp] at hm
    split at hm
    · rename_i z hz
      split at hm
      · rename_i ho
        have := ret_run hm; subst this
        exact (alloc_sound hr hn hz ho).op
      · exact (fail_run hm).elim
    · exact (fail_run hm).elim
  | box e x =>
    simp only [evOp] at hm
    split at hm
    · rename_i c hc
      split at hm
      · rename_i ho
        have := ret_run hm; subst this
        exact (box_sound hr hn (hρ x) hc ho).op
      · exact (fail_run hm).elim
    · exact (fail_run hm).elim
  | build t parts => exact (build_sound hr hρ hm).op
  | buildSlice t len parts => exact (buildSlice_sound hr hn hρ hm).op
  | load t a =>
    obtain ⟨v, h1, h2, h3⟩ := load_sound (P := P) hr (nid := nid) (hρ a) hm
    refine ValGood.op (s := Instr.loadAt t (ρ' a)) ⟨v, w, K, h1, ?_, ?_⟩
    · rw [h3]; exact Goes.refl hr
    · rw [h3]; exact h2
  | store t a v => exact skipOf (store_sound hr (hρ a) (hρ v) hm)
  | nilCheck x =>
    simp only [evOp] at hm
    have hx := hρ x
    split at hm
    · rename_i b o v e
      have := ret_run hm; subst this
      rw [e] at hx
      obtain ⟨y, hy, _⟩ := hx.inv_ref
      exact ⟨ρ' x, w, K, by simp only [execOp, hy]; rfl, Goes.refl hr, hx⟩
    · rename_i c o e
      have := ret_run hm; subst this
      rw [e] at hx
      obtain ⟨b, p, us, hy, _⟩ := hx.inv_vref
      exact ⟨ρ' x, w, K, by simp only [execOp, hy]; rfl, Goes.refl hr, hx⟩
    · rename_i f a b e
      have := ret_run hm; subst this
      rw [e] at hx
      obtain ⟨va, vb, hy, _⟩ := hx.inv_fn
      exact ⟨ρ' x, w, K, by simp only [execOp, hy]; rfl, Goes.refl hr, hx⟩
    · exact (fail_run hm).elim
  | binOp op t x y _ => exact (valOf hr hm fun b hb => bin_sound hf (hρ x) (hρ y) hb x y).op
  | unOp op _ x => exact (valOf hr hm fun b hb => un_sound (hρ x) hb).op
  | convert s d x => exact (convert_sound hr hn (hρ x) hm).op
  | sliceToArrayPointer t x =>
    simp only [evOp] at hm
    have hx := hρ x
    split at hm
    · rename_i n e cells m tight ht hc
      split at hm
      · rename_i hl
        have := ret_run hm; subst this
        rw [hc] at hx
        obtain ⟨b, p, sp, cap, us, hy, g1, g2, g3, g4, g5, g6⟩ := hx.inv_sl
        obtain rfl : sp = none := by
          rcases g6 with g6 | g6
          · exact g6
          · omega
        refine ValGood.op (s := Instr.arrayAt t (ρ' x)) ⟨.pointer (some ⟨b, p, none⟩), w, K, ?_, Goes.refl hr, ?_⟩
        · have : ¬ m < n := by omega
          simp [Instr.arrayAt, hy, run_undA ht, this]
        · exact .clean (.vref g3 g4 g5)
      · exact (fail_run hm).elim
    · rename_i n e b off m cap ver ht hc
      split at hm
      · rename_i hl
        have := ret_run hm; subst this
        rw [hc] at hx
        obtain ⟨y, p, cp, hy, g1, g2, g3, g4, g5⟩ := hx.inv_rsl
        have ho : p = off := by rcases g4 with h | h <;> omega
        refine ValGood.op (s := Instr.arrayAt t (ρ' x)) ⟨.pointer (some ⟨y, p, none⟩), w, K, ?_, Goes.refl hr, ?_⟩
        · have : ¬ m < n := by omega
          simp [Instr.arrayAt, hy, run_undA ht, this]
        · rw [ho]
          exact .ref g1 fun c i hc hv => (g5 c i hc hv).1
      · exact (fail_run hm).elim
    · exact (fail_run hm).elim
  | makeInterface t x =>
    simp only [evOp] at hm
    split at hm
    · exact (fail_run hm).elim
    · rename_i d hni hd
      have := ret_run hm; subst this
      refine ValGood.op (s := Instr.makeInterface t (ρ' x)) ⟨.iface t (ρ' x), w, K, ?_, Goes.refl hr, .ifc (hρ x)⟩
      simp only [Instr.makeInterface, Sem.run_bind, run_undA hd, Result.andThen_ok]
      cases d <;> first | rfl | exact absurd rfl (hni _)
    · exact (fail_run hm).elim
  | makeFunc fn a b =>
    cases fn with
    | func f =>
      have := ret_run hm; subst this
      refine ValGood.op (s := Instr.makeFunc (.func f) (a.map ρ') (b.map ρ')) ⟨_, w, K, rfl, Goes.refl hr, ?_⟩
      have := RepV.fn (f := f) (RepVL.map (K := K) (bs := bs) (hp := w.heap) (l := a.toList) fun x _ => hρ x) (RepVL.map (l := b.toList) fun x _ => hρ x)
      rw [show (a.toList.map ρ').toArray = a.map ρ' by rw [← Array.toList_map, Array.toArray_toList], show (b.toList.map ρ').toArray = b.map ρ' by rw [← Array.toList_map, Array.toArray_toList]] at this
      exact this
    | _ => exact (fail_run hm).elim
  | makeMap t h =>
    simp only [evOp] at hm
    split at hm
    · have := ret_run hm; subst this
      exact (makeMap_sound hr hn (.inl rfl)).op
    · rename_i x
      split at hm
      · rename_i kt et k n ht hx
        have := ret_run hm; subst this
        have hxx := hρ x
        rw [hx] at hxx
        exact (makeMap_sound hr hn (.inr ⟨kt, et, k, n, ht, by rw [Option.map_some, hxx.inv_int]⟩)).op
      · exact (fail_run hm).elim
  | makeSlice t l c => exact (makeSlice_sound hr hn (hρ l) (hρ c) hm).op
  | slice t x lo hi mx => exact (slice_sound hr (hρ x) (repO hρ lo) (repO hρ hi) (repO hρ mx) hm).op
  | fieldAddr s x f => exact (valOf hr hm fun b hb => fieldAddr_sound (hρ x) hb).op
  | field s x f => exact (valOf hr hm fun b hb => field_sound (hρ x) hb).op
  | indexAddr t x i => exact (valOf hr hm fun b hb => indexAddr_sound (hρ x) (hρ i) hb).op
  | index t x i => exact (valOf hr hm fun b hb => index_sound (hρ x) (hρ i) hb).op
  | lookup t m k ok => exact (lookup_sound hr (hρ m) (hρ k) hm).op
  | mapUpdate t m k v => exact skipOf (mapUpdate_sound hr (hρ m) (hρ k) (hρ v) hm)
  | insert t m k v => exact skipOf (mapUpdate_sound hr (hρ m) (hρ k) (hρ v) hm)
  | extract t i =>
    simp only [evOp] at hm
    split at hm
    · rename_i vs ht
      have htt := hρ t
      rw [ht] at htt
      obtain ⟨us, hu, hl⟩ := htt.inv_tup
      refine (valOf hr hm fun b hb => ?_ : ValGood K bs w nid r ((Instr.extract (ρ' t) i).run P w)).op
      obtain ⟨v, hv, hR⟩ := hl.get hb
      exact ⟨v, by simp [Instr.extract, hu, hv], hR⟩
    · exact (fail_run hm).elim
  | call c =>
    obtain ⟨callee, args, argTypes⟩ := c
    cases callee with
    | builtin b =>
      have := builtin_sound hr hn (ty := type) (cs := args.map fun | .const _ => true | _ => false) hρ hm
      exact this
    | _ => exact (fail_run hm).elim
  | _ => exact (fail_run hm).elim
end ops
end Go.Proofs.Ytnkeijebkpjdgaa.Ab
