import Derived.Test.YtbebcbcnibfbhaaEK
/- The engine, twelfth text: make, append. -/
namespace Go.Proofs.Ytbebcbcnibfbhaa.Ab
open Go

section ops
variable {P : Program} {K : KS} {bs : List AB} {w : World}

theorem wrap64_id {n : Int} (h0 : 0 ≤ n) (h1 : n ≤ 140737488355328) : IntKind.i64.wrap n = n := by
  unfold IntKind.wrap
  simp only [show ((2 : Int) ^ IntKind.i64.bits) = 18446744073709551616 from rfl, show ((2 : Int) ^ (IntKind.i64.bits - 1)) = 9223372036854775808 from rfl, show IntKind.i64.signed = true from rfl]
  rw [Int.emod_eq_of_lt h0 (by omega), if_neg (by simp; omega)]
theorem makeSlice_sound (hr : HR K bs w.heap) {nid : Nat} (hn : nid = bs.length ∨ bs[nid]? = some .void) {t : TypeId} {l c : AV} {l' c' : Value} (hl : RepV K bs w.heap l l') (hc : RepV K bs w.heap c c') {r : Out}
    (hm : (makeSliceA P nid t l c).run bs = some r) : ValGood K bs w nid r ((Instr.makeSlice t l' c').run P w) := by
  unfold makeSliceA at hm
  split at hm
  · rename_i e k1 l k2 c hu
    have := hl.inv_int; subst this
    have := hc.inv_int; subst this
    split at hm
    · rename_i sz by_ z hsz hby hz
      split at hm
      · rename_i hcond
        obtain ⟨h1, h2, h3, h4, h5, h6, h7⟩ := hcond
        have := ret_run hm; subst this
        obtain ⟨i, v, hi, hv, hrep⟩ := zero_info hz
        obtain ⟨i1, hi1, hs1⟩ := szOf_info hsz
        obtain ⟨i2, hi2, hb2⟩ := bytesA_info hby
        rw [hi] at hi1 hi2; cases hi1; cases hi2
        have hzr := hrep K bs w.heap
        have hvl : v.cells.toList.length = sz := by rw [← hzr.len, h5]
        have hrow := zeroRow_eq v.cells.toList c.toNat (by omega)
        rw [hvl] at hrow
        have hw1 := wrap64_id h1 (by omega : l ≤ 140737488355328)
        have hw2 := wrap64_id (by omega : 0 ≤ c) h3
        have hrow' : (Array.range (c.toNat * sz)).map (fun i => v.cells[i % v.cells.size]!) = (List.replicate c.toNat v.cells.toList).flatten.toArray := by simpa using hrow
        have hrun : (Instr.makeSlice t (.int k1 l) (.int k2 c)).run P w = .ok (.slice (some ⟨w.heap.size, 0, none⟩) l.toNat c.toNat) { w with heap := w.heap.push (.cells (List.replicate c.toNat v.cells.toList).flatten.toArray e) } := by
          have htl : (decide (c < 0) || decide (↑by_ * c > 281474976710656)) = false := by simp; omega
          have htl2 : decide (l < 0) = false := by simp; omega
          have htl3 : decide (l > c) = false := by simp; omega
          unfold Instr.makeSlice
          simp only [Sem.run_bind, run_undA hu, Result.andThen_ok, asInt, asIntOf, Sem.run_pure, run_infoA hi, hw1, hw2, hb2]
          simp only [show (2 : Int) ^ 48 = 281474976710656 by decide, htl, htl2, htl3, Bool.or_false, Bool.false_eq_true, if_false, Sem.run_bind, run_askRoom, Result.andThen_ok, run_szOf hsz]
          by_cases h0 : c.toNat * sz = 0
          · have hc0 : c.toNat = 0 := by
              rcases Nat.mul_eq_zero.1 h0 with h | h
              · exact h
              · omega
            simp only [h0, if_true]
            have har : ∀ f : Nat → Value, (Array.range 0).map f = #[] := fun f => Array.eq_empty_of_size_eq_zero (by simp)
            simp only [Sem.run_bind, Sem.run_pure, Result.andThen_ok, har]
            simp [newRow, hc0]
          · simp only [h0, if_false]
            simp only [Sem.run_bind, Sem.run_pure, Result.andThen_ok, run_zero hi hv, hrow']
            simp [newRow]
        rw [hrun]
        refine good_row hr hn (k := (List.replicate c.toNat v.cells.toList).flatten.length) rfl (obj_cells (repCells_rep c.toNat hzr) (oneL_one (repCells_rep c.toNat hzr) (oneL_rep _ h7)) e ⟨cleanL z && plainL z, sz, false, true⟩ (fun h => cleanL_rep _ (Bool.and_eq_true _ _ ▸ h).1)) rfl (by omega) (fun m hm => by cases hm; rfl) (fun h => by cases h) _ w.drawn rfl
      · exact (fail_run hm).elim
    · exact (fail_run hm).elim
  · exact (fail_run hm).elim

/-- What an append adds, in the machine. -/
structure News (P : Program) (K : KS) (bs : List AB) (w : World) (e sz : Nat) (ts : Array TypeId) (x : Value) (n : Nat) (c : List AV) (cl : Bool) (us : List Value) : Prop where
  kind : ((ts[1]? = none ∨ ∃ u d, ts[1]? = some u ∧ P.underlying u = some d ∧ ∀ k, d ≠ .int k) ∧ (Builtin.lenOf x).run P w = .ok n w ∧ ∀ w2 : World, w2.heap = w.heap → (Builtin.firstCells sz n x).run P w2 = .ok us.toArray w2) ∨
    (∃ (u : TypeId) (k0 k : IntKind) (l : Int) (v : Value), ts[1]? = some u ∧ P.underlying u = some (.int k0) ∧ x = .int k l ∧ 0 ≤ l ∧ l ≤ 140737488355328 ∧ n = l.toNat ∧ (∀ w2 : World, (zeroValue e).run P w2 = .ok v w2) ∧ v.cells.size = sz ∧ us = (List.replicate n v.cells.toList).flatten)
  len : us.length = n * sz
  rep : RepVL K bs w.heap c us
  one : ∀ (j : Nat) (u : Value), us[j]? = some u → u.oneCell' = true
  clean : cl = true → cleanL c = true
theorem newCells_sound (hr : HR K bs w.heap) {e sz : Nat} {ts : Array TypeId} {u : Option TypeId} (hu : u = ts[1]?) {a : AV} {x : Value} (ha : RepV K bs w.heap a x) {k : Nat → List AV → Bool → AM Out} {r : Out}
    (hm : (newCells P e sz u a k).run bs = some r) : ∃ n c cl us, News P K bs w e sz ts x n c cl us ∧ (k n c cl).run bs = some r := by
  unfold newCells at hm
  split at hm
  · split at hm
    · rename_i n hl
      obtain ⟨c, cl, us, hc, hm⟩ := sliceCells_sound (P := P) hr ha hm
      exact ⟨n, c, cl, us, ⟨.inl ⟨.inl hu.symm, (lenOf_sound ha hl).1, hc.run⟩, hc.len, hc.rep, hc.one, hc.clean⟩, hm⟩
    · exact (fail_run hm).elim
  · rename_i u'
    split at hm
    · exact (fail_run hm).elim
    · rename_i k0 hud
      split at hm
      · rename_i k1 l z hz
        have := ha.inv_int; subst this
        split at hm
        · rename_i hcond
          obtain ⟨h1, h2, h3, h4⟩ := hcond
          obtain ⟨i, v, hi, hv, hrep⟩ := zero_info hz
          have hzr := hrep K bs w.heap
          have hvl : v.cells.toList.length = sz := by rw [← hzr.len, h3]
          refine ⟨_, _, _, (List.replicate l.toNat v.cells.toList).flatten, ⟨.inr ⟨u', k0, k1, l, v, hu.symm, hud, rfl, h1, h2, rfl, fun w2 => run_zero hi hv, by simpa using hvl, rfl⟩, ?_, repCells_rep _ hzr, oneL_one (repCells_rep _ hzr) (oneL_rep _ h4), fun h => cleanL_rep _ h⟩, hm⟩
          rw [flatten_len, hvl]
        · exact (fail_run hm).elim
      · exact (fail_run hm).elim
    · rename_i d hnd hud
      split at hm
      · rename_i n hl
        obtain ⟨c, cl, us, hc, hm⟩ := sliceCells_sound (P := P) hr ha hm
        exact ⟨n, c, cl, us, ⟨.inl ⟨.inr ⟨u', d, hu.symm, hud, fun k hk => hnd k (by rw [← hk])⟩, (lenOf_sound ha hl).1, hc.run⟩, hc.len, hc.rep, hc.one, hc.clean⟩, hm⟩
      · exact (fail_run hm).elim

theorem zero_cells {v : Value} {n sz : Nat} (hv : v.cells.size = sz) (hsz : 0 < sz) : Builtin.zeroCells v.cells n = (List.replicate n v.cells.toList).flatten.toArray := by
  unfold Builtin.zeroCells
  have := zeroRow_eq v.cells.toList n (by simpa [hv] using hsz)
  simpa using this
/-- An append with room. -/
theorem run_append_fits {t ty e sz by_ : Nat} {ts : Array TypeId} {i : TypeInfo} (ht : P.underlying t = some (.slice e)) (hts : ts[0]? = some t) (hi : P.info? e = some i) (hsz : i.size = sz) (hpos : 0 < sz) (hby : i.bytes = by_)
    {base : Option Addr} {m cp n : Nat} {x : Value} {c : List AV} {cl : Bool} {us : List Value} (hN : News P K bs w e sz ts x n c cl us) (hfit : m + n ≤ cp) (hbytes : (m + n) * by_ ≤ 140737488355328)
    {w' : World} (hst : ∀ a, base = some a → (storeCells (a.add (m * sz)) us).run P w = .ok () w') (hno : base = none → w' = w) :
    (Builtin.append_ ts ty #[.slice base m cp, x]).run P w = .ok (.slice base (m + n) cp) w' := by
  obtain ⟨hk, hlen, _⟩ := hN
  have hso : (sizeOf e).run P w = .ok sz w := by simp [sizeOf, typeInfo, hi, hsz]
  have hfin : ∀ (f : Sem (Array Value)), f.run P w = .ok us.toArray w → (do
      let new ← f
      match base with
      | some a => do
        storeCells (a.add (m * sz)) new.toList
        pure (.slice base (m + n) cp)
      | _ => pure (.slice base (m + n) cp) : Sem Value).run P w = .ok (.slice base (m + n) cp) w' := by
    intro f hf
    cases base with
    | none =>
      have := hno rfl
      subst this
      simp [hf]
    | some a =>
      have := hst a rfl
      simp [hf, this]
  rcases hk with ⟨hu, hl, hf⟩ | ⟨u, k0, k, l, v, hu, hud, rfl, h0, h1, rfl, hz, hvs, rfl⟩
  · have hf' := hf w rfl
    rcases hu with hu | ⟨u, d, hu, hud, hd⟩
    · unfold Builtin.append_
      simp only [hts, hu, Sem.run_bind, run_undA ht, Result.andThen_ok, hso, Bool.false_eq_true, if_false, hl, Sem.run_pure, List.getElem?_toArray, List.getElem?_cons_zero, List.getElem?_cons_succ, if_pos hfit, Bool.not_false, if_true]
      have h9 := hfin _ hf'
      rw [Sem.run_bind] at h9
      exact h9
    · unfold Builtin.append_
      simp only [hts, hu, run_undA hud, Sem.run_bind, run_undA ht, Result.andThen_ok, hso, Bool.false_eq_true, if_false, hl, Sem.run_pure, List.getElem?_toArray, List.getElem?_cons_zero, List.getElem?_cons_succ, if_pos hfit, Bool.not_false, if_true]
      have h9 := hfin _ hf'
      rw [Sem.run_bind] at h9
      exact h9
  · have hwr := wrap64_id h0 h1
    have hneg : ¬ l < 0 := by omega
    have hbig : ¬ l * (i.bytes : Int) > 2 ^ 48 := by
      have h2 : l.toNat * by_ ≤ (m + l.toNat) * by_ := Nat.mul_le_mul_right _ (by omega)
      have h3 : ((l.toNat * by_ : Nat) : Int) ≤ ((140737488355328 : Nat) : Int) := Int.ofNat_le.2 (by omega)
      rw [Int.natCast_mul, Int.toNat_of_nonneg h0] at h3
      rw [hby]
      have : (2 : Int) ^ 48 = 281474976710656 := by decide
      omega
    have happ : (if l.toNat * sz = 0 then pure #[] else do pure (Builtin.zeroCells (← zeroValue e).cells l.toNat) : Sem (Array Value)).run P w = .ok (List.replicate l.toNat v.cells.toList).flatten.toArray w := by
      by_cases h9 : l.toNat * sz = 0
      · have hn0 : l.toNat = 0 := by
          rcases Nat.mul_eq_zero.1 h9 with h | h
          · exact h
          · omega
        rw [if_pos h9, hn0]
        simp
      · rw [if_neg h9]
        simp [hz, zero_cells hvs hpos]
    unfold Builtin.append_
    simp only [hts, hu, run_undA hud, asInt, asIntOf, hwr, hneg, hbig, run_infoA hi, Sem.run_bind, run_undA ht, Result.andThen_ok, hso, Bool.false_eq_true, if_false, Sem.run_pure, List.getElem?_toArray, List.getElem?_cons_zero, List.getElem?_cons_succ, if_pos hfit, Bool.not_true, if_true]
    have h9 := hfin _ happ
    rw [Sem.run_bind] at h9
    exact h9
/-- An append without. -/
theorem run_append_grows {t ty e sz by_ : Nat} {ts : Array TypeId} {i : TypeInfo} (ht : P.underlying t = some (.slice e)) (hts : ts[0]? = some t) (hi : P.info? e = some i) (hsz : i.size = sz) (hpos : 0 < sz) (hby : i.bytes = by_)
    {base : Option Addr} {m cp n : Nat} {x z : Value} {c : List AV} {cl : Bool} {us old : List Value} (hz : i.zero = some z) (hN : News P K bs w e sz ts x n c cl us) (hfit : ¬ m + n ≤ cp) (hsmall : m + n ≤ 140737488355328) (hbytes : (m + n) * by_ ≤ 140737488355328)
    (hold : ∀ w2 : World, w2.heap = w.heap → (Builtin.firstCells sz m (.slice base m cp)).run P w2 = .ok old.toArray w2) :
    ∃ cap2 rest, m + n ≤ cap2 ∧ rest = Builtin.zeroCells z.cells (cap2 - (m + n)) ∧ (Builtin.append_ ts ty #[.slice base m cp, x]).run P w =
      .ok (.slice (some ⟨w.heap.size, 0, none⟩) (m + n) cap2) { w with heap := w.heap.push (.cells (old.toArray ++ us.toArray ++ rest) e), drawn := w.drawn + 1 } := by
  obtain ⟨hk, hlen, _⟩ := hN
  have hso : (sizeOf e).run P w = .ok sz w := by simp [sizeOf, typeInfo, hi, hsz]
  have hle : m + n ≤ grownCap w (m + n) cp e := Nat.le_add_right _ _
  refine ⟨grownCap w (m + n) cp e, _, hle, rfl, ?_⟩
  have hgrow := growslice_fits (show cp < m + n by omega) (by rw [hby]; exact hbytes : (m + n) * i.bytes ≤ 140737488355328)
  have hng : ¬ Builtin.nextslicecap (m + n) cp * i.bytes > 2 ^ 48 := by
    have : (2 : Nat) ^ 48 = 281474976710656 := by decide
    omega
  have hmax : ¬ ((m + n : Nat) : Int) > IntKind.i64.max := by
    have h3 : ((m + n : Nat) : Int) ≤ ((140737488355328 : Nat) : Int) := Int.ofNat_le.2 hsmall
    have : IntKind.i64.max = 9223372036854775807 := by decide
    omega
  have hzero : ∀ w2 : World, (zeroValue e).run P w2 = .ok z w2 := fun w2 => run_zero hi hz
  have hfin : ∀ (f : Sem (Array Value)), (∀ w2 : World, w2.heap = w.heap → f.run P w2 = .ok us.toArray w2) → (do
      let newCap ← choose (.appendCap (m + n) cp e)
      askRoom (newCap * i.bytes)
      let old ← Builtin.firstCells sz m (.slice base m cp)
      let new ← f
      let rest := Builtin.zeroCells (← zeroValue e).cells (newCap - (m + n))
      pure (.slice (some (← newRow e (old ++ new ++ rest))) (m + n) newCap) : Sem Value).run P w = .ok (.slice (some ⟨w.heap.size, 0, none⟩) (m + n) (grownCap w (m + n) cp e))
        { w with heap := w.heap.push (.cells (old.toArray ++ us.toArray ++ Builtin.zeroCells z.cells (grownCap w (m + n) cp e - (m + n))) e), drawn := w.drawn + 1 } := by
    intro f hf
    have h1 := hold w.drew rfl
    have h2 := hf w.drew rfl
    simp [Question.forced, h1, h2, hzero, newRow, grownCap]
    simp only [World.alloc, World.drew]
    congr 3
    rw [← Array.append_assoc]
    congr 1
    simp
  rcases hk with ⟨hu, hl, hf⟩ | ⟨u, k0, k, l, v, hu, hud, rfl, h0, h1, rfl, hzv, hvs, rfl⟩
  · rcases hu with hu | ⟨u, d, hu, hud, hd⟩
    · unfold Builtin.append_
      simp only [hts, hu, Sem.run_bind, run_undA ht, Result.andThen_ok, hso, Bool.false_eq_true, if_false, hl, Sem.run_pure, List.getElem?_toArray, List.getElem?_cons_zero, List.getElem?_cons_succ, if_neg hfit, Bool.not_false, if_true, hmax, false_and, run_infoA hi, hng]
      have h9 := hfin _ hf
      simp only [Sem.run_bind] at h9
      exact h9
    · unfold Builtin.append_
      simp only [hts, hu, run_undA hud, Sem.run_bind, run_undA ht, Result.andThen_ok, hso, Bool.false_eq_true, if_false, hl, Sem.run_pure, List.getElem?_toArray, List.getElem?_cons_zero, List.getElem?_cons_succ, if_neg hfit, Bool.not_false, if_true, hmax, false_and, run_infoA hi, hng]
      have h9 := hfin _ hf
      simp only [Sem.run_bind] at h9
      exact h9
  · have hwr := wrap64_id h0 h1
    have hneg : ¬ l < 0 := by omega
    have hbig : ¬ l * (i.bytes : Int) > 2 ^ 48 := by
      have h2 : l.toNat * by_ ≤ (m + l.toNat) * by_ := Nat.mul_le_mul_right _ (by omega)
      have h3 : ((l.toNat * by_ : Nat) : Int) ≤ ((140737488355328 : Nat) : Int) := Int.ofNat_le.2 (by omega)
      rw [Int.natCast_mul, Int.toNat_of_nonneg h0] at h3
      rw [hby]
      have : (2 : Int) ^ 48 = 281474976710656 := by decide
      omega
    have happ : ∀ w2 : World, w2.heap = w.heap → (if l.toNat * sz = 0 then pure #[] else do pure (Builtin.zeroCells (← zeroValue e).cells l.toNat) : Sem (Array Value)).run P w2 = .ok (List.replicate l.toNat v.cells.toList).flatten.toArray w2 := by
      intro w2 _
      by_cases h9 : l.toNat * sz = 0
      · have hn0 : l.toNat = 0 := by
          rcases Nat.mul_eq_zero.1 h9 with h | h
          · exact h
          · omega
        rw [if_pos h9, hn0]
        simp
      · rw [if_neg h9]
        simp [hzv, zero_cells hvs hpos]
    unfold Builtin.append_
    simp only [hts, hu, run_undA hud, asInt, asIntOf, hwr, hneg, hbig, run_infoA hi, Sem.run_bind, run_undA ht, Result.andThen_ok, hso, Bool.false_eq_true, if_false, Sem.run_pure, List.getElem?_toArray, List.getElem?_cons_zero, List.getElem?_cons_succ, if_neg hfit, Bool.not_true, if_true, hmax, false_and, hng]
    have h9 := hfin _ happ
    simp only [Sem.run_bind] at h9
    exact h9
end ops
end Go.Proofs.Ytbebcbcnibfbhaa.Ab
