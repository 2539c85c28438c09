import Derived.Test.YtbebcbcnibfbhaaEL
/- The engine, thirteenth text: append, copy. -/
namespace Go.Proofs.Ytbebcbcnibfbhaa.Ab
open Go

section ops
variable {P : Program} {K : KS} {bs : List AB} {w : World}

theorem zeroCells_len {v : Value} {n sz : Nat} (hv : v.cells.size = sz) (hsz : 0 < sz) : (Builtin.zeroCells v.cells n).size = n * sz := by
  rw [zero_cells hv hsz, List.size_toArray, flatten_len, Array.length_toList, hv]
/-- The row that a growing append lays. -/
theorem grown_row {old us : List Value} {c new : List AV} {rest : Array Value} (ho : RepVL K bs w.heap c old) (hn : RepVL K bs w.heap new us) (h1 : ∀ (j : Nat) (u : Value), old[j]? = some u → u.oneCell' = true) (h2 : ∀ (j : Nat) (u : Value), us[j]? = some u → u.oneCell' = true)
    (e : TypeId) (i : BI) (hc : i.cl = true → cleanL (c ++ new) = true) {k : Nat} (hk : k = old.length + us.length + rest.size) :
    ObjR K bs w.heap k (.cells (c ++ new) i) (.cells (old.toArray ++ us.toArray ++ rest) e (0, 0)) := by
  refine ⟨_, e, 0, 0, old ++ us, rfl, .inl rfl, by simp [hk], fun j u hu => ?_, ho.app hn, hc⟩
  constructor
  · have hlt := (List.getElem?_eq_some_iff.1 hu).1
    rw [Array.getElem?_append_left (by simpa using hlt)]
    rw [List.append_toArray, List.getElem?_toArray]
    exact hu
  · rw [List.getElem?_append] at hu
    split at hu
    · exact h1 _ _ hu
    · exact h2 _ _ hu
theorem le_mul_cap {m n cp sz : Nat} (h : m + n ≤ cp) : (m + n) * sz ≤ cp * sz := Nat.mul_le_mul_right _ h
theorem cleanL_app_of {c new : List AV} (h1 : cleanL c = true) (h2 : cleanL new = true) : cleanL (c ++ new) = true := by rw [cleanL_app, h1, h2]; rfl

theorem append_sound (hr : HR K bs w.heap) {nid : Nat} (hn : nid = bs.length ∨ bs[nid]? = some .void) {t ty : TypeId} {ts : Array TypeId} {u : Option TypeId} (hts : ts[0]? = some t) (hu : u = ts[1]?) {s x : AV} {s' x' : Value} (hs : RepV K bs w.heap s s') (hx : RepV K bs w.heap x x') {r : Out}
    (hm : (appendA P nid t u s x).run bs = some r) : ValGood K bs w nid r ((Builtin.append_ ts ty #[s', x']).run P w) := by
  unfold appendA at hm
  split at hm
  · rename_i e ht
    split at hm
    · rename_i sz by_ zc hsz hby hzc
      have hm' := newCells_sound hr hu hx hm
      clear hm
      obtain ⟨n, new, ncl, us, hN, hm⟩ := hm'
      obtain ⟨i, z, hi, hz, hrep⟩ := zero_info hzc
      obtain ⟨i1, hi1, hs1⟩ := szOf_info hsz
      obtain ⟨i2, hi2, hb2⟩ := bytesA_info hby
      rw [hi] at hi1 hi2; cases hi1; cases hi2
      split at hm
      · rename_i hcond
        obtain ⟨hsm, hbt, hpos, hzl⟩ := hcond
        have hzs : z.cells.size = sz := by
          have := (hrep K bs w.heap).len
          rw [hzl] at this
          simpa using this.symm
        have hNrep := hN.rep
        have hNlen := hN.len
        have hnewl : new.length = n * sz := by rw [hNrep.len, hNlen]
        split at hm
        · -- nil
          have := hs.inv_sl0; subst this
          split at hm
          · rename_i h0
            subst h0
            have := ret_run hm; subst this
            rw [run_append_fits ht hts hi hs1 hpos hb2 hN (Nat.le_refl 0) (by omega) (w' := w) (fun a ha => by cases ha) (fun _ => rfl)]
            exact good_none hr (.clean .sl0)
          · rename_i h0
            have := ret_run hm; subst this
            simp only [lenOfA, Option.getD_some] at hsm hbt
            obtain ⟨cap2, rest, g1, g2, g3⟩ := run_append_grows ht hts hi hs1 hpos hb2 (base := none) (m := 0) (cp := 0) (old := []) (x := x') hz hN (by omega) (by omega) (by omega) (fun w2 _ => by simp [Builtin.firstCells])
            rw [g3]
            have hrl : rest.size = (cap2 - (0 + n)) * sz := by rw [g2]; exact zeroCells_len hzs hpos
            have hrow := grown_row (K := K) (bs := bs) (w := w) (c := []) (old := []) (us := us) (new := new) (rest := rest) .nil hNrep (fun j u hu => by simp at hu) hN.one e ⟨ncl && plainL zc, sz, true, true⟩ (fun h => by simpa using hN.clean (by simp only [Bool.and_eq_true] at h; exact h.1)) rfl
            have := good_row (cap := none) (n := n) (cp := cap2) (ver := new.length + 1) hr hn (i := ⟨ncl && plainL zc, sz, true, true⟩) (c := new) (k := ([] : List Value).length + us.length + rest.size) rfl hrow (by simp [verA]) (by omega) (fun m hm => by cases hm) (fun _ => by
              simp only [List.length_nil]
              rw [hNlen, hrl, hnewl]
              have : (cap2 - (0 + n)) * sz + n * sz = cap2 * sz := by rw [← Nat.add_mul]; congr 1; omega
              have := le_mul_cap (sz := sz) g1
              simp only [Nat.zero_add] at *
              omega) _ (w.drawn + 1) rfl
            simpa using this
        · -- a value
          rename_i cells m tight
          obtain ⟨b, o, sp, cap, vs, rfl, q1, q2, q3, q4, q5, q6⟩ := hs.inv_sl
          simp only [lenOfA, Option.getD_some] at hsm hbt
          split at hm
          · rename_i h0
            subst h0
            have := ret_run hm; subst this
            have hus : us = [] := List.eq_nil_of_length_eq_zero (by rw [hNlen]; simp)
            rw [run_append_fits ht hts hi hs1 hpos hb2 hN (by omega : m + 0 ≤ cap) (by omega) (w' := w) (fun a ha => by rw [hus]; rfl) (fun h => by cases h)]
            exact good_none hr hs
          · rename_i h0
            split at hm
            · rename_i htl
              obtain ⟨ht1, hcl⟩ := htl
              have := ret_run hm; subst this
              have hcapm := q2 ht1
              subst hcapm
              have hvl : vs.length = cap * sz := by rw [← q5.len, hcl]
              obtain ⟨cap2, rest, g1, g2, g3⟩ := run_append_grows ht hts hi hs1 hpos hb2 (base := some ⟨b, o, sp⟩) (m := cap) (cp := cap) (old := vs) (x := x') hz hN (by omega) hsm hbt (fun w2 hw => by
                rcases q6 with rfl | rfl
                · have := run_cells P w2 b o vs (fun j u hu => by rw [hw]; exact (q4 j u hu).1)
                  rw [hvl] at this
                  exact this
                · have hvn : vs = [] := List.eq_nil_of_length_eq_zero (by omega)
                  subst hvn
                  simp [Builtin.firstCells, loadCells, loadCellsFrom])
              rw [g3]
              have hrl : rest.size = (cap2 - (cap + n)) * sz := by rw [g2]; exact zeroCells_len hzs hpos
              have hrow := grown_row (K := K) (bs := bs) (w := w) (c := cells) (old := vs) (us := us) (new := new) (rest := rest) (.of_clean q5) hNrep (fun j u hu => (q4 j u hu).2) hN.one e ⟨ncl && plainL zc, sz, true, true⟩ (fun h => cleanL_app_of q5.isClean (hN.clean (by simp only [Bool.and_eq_true] at h; exact h.1))) rfl
              exact good_row (cap := none) (n := cap + n) (cp := cap2) (ver := (cells ++ new).length + 1) hr hn (i := ⟨ncl && plainL zc, sz, true, true⟩) (c := cells ++ new) rfl hrow (by simp [verA]) g1 (fun m hm => by cases hm) (fun _ => by
                simp only [List.length_append]
                rw [hNlen, hrl, hnewl, hvl, hcl]
                have h8 : (cap2 - (cap + n)) * sz + (cap * sz + n * sz) = cap2 * sz := by rw [← Nat.add_mul, ← Nat.add_mul]; congr 1; omega
                have h9 := le_mul_cap (sz := sz) g1
                rw [Nat.add_mul] at h9
                omega) _ (w.drawn + 1) rfl
            · exact (fail_run hm).elim
        · -- a row of a block of known capacity
          rename_i b off m cap ver
          obtain ⟨y, o, cp, rfl, q1, q2, q3, q4, q5⟩ := hs.inv_rsl
          simp only [lenOfA, Option.getD_some] at hsm hbt
          have hcp := q3 cap rfl
          subst hcp
          obtain ⟨c, i0, hb, hm⟩ := info_run hm
          split at hm
          · rename_i hv
            obtain rfl := (q5 c i0 hb hv).1
            split at hm
            · rename_i hfit
              split at hm
              · rename_i hcd
                obtain ⟨hw, hl, hcl⟩ := hcd
                have := ret_run hm; subst this
                have hmul : (m + n) * sz = m * sz + n * sz := Nat.add_mul _ _ _
                obtain ⟨K', w', hrun, hg⟩ := goes_put (nid := nid) (off := off + m * sz) (vs := new) hr P hb hw (by rw [hnewl]; omega) hNrep hN.one (fun h => by
                  rcases hcl with h' | h'
                  · rw [h] at h'; cases h'
                  · exact hN.clean h')
                have hst : ∀ a, some (⟨K.β b, o, none⟩ : Addr) = some a → (storeCells (a.add (m * sz)) us).run P w = .ok () w' := by
                  intro a ha
                  cases ha
                  rw [add_addr]
                  rcases q4 with q4 | q4
                  · have hm0 : m = 0 := by omega
                    have hn0 : n = 0 := by omega
                    subst hm0 hn0
                    have hus : us = [] := List.eq_nil_of_length_eq_zero (by rw [hNlen]; simp)
                    rw [hus] at hrun ⊢
                    exact hrun
                  · rw [q4]; exact hrun
                rw [run_append_fits ht hts hi hs1 hpos hb2 hN hfit hbt hst (fun h => by cases h)]
                refine ⟨_, w', K', rfl, hg, ?_⟩
                have hL := hg.lat hr
                have hs2 : RepV K bs w.heap (.rsl b off (m + n) (some cp) ver) (.slice (some ⟨K.β b, o, none⟩) (m + n) cp) := .rsl q1 hfit q3 q4 fun c i hc hv => ⟨(q5 c i hc hv).1, fun e => by cases e⟩
                exact hs2.mono hL
              · exact (fail_run hm).elim
            · rename_i hfit
              obtain ⟨c2, i2, hb2', hl, hm⟩ := cells_run hm
              rw [hb] at hb2'; cases hb2'
              have := ret_run hm; subst this
              obtain ⟨vs, k1, k2, k3, k4⟩ := read_cells hr hb hl
              have hold : ∀ w2 : World, w2.heap = w.heap → (Builtin.firstCells sz m (.slice (some ⟨K.β b, o, none⟩) m cp)).run P w2 = .ok vs.toArray w2 := by
                intro w2 hw
                rcases q4 with q4 | q4
                · have hm0 : m = 0 := by omega
                  subst hm0
                  have hvs : vs = [] := List.eq_nil_of_length_eq_zero (by omega)
                  subst hvs
                  simp [Builtin.firstCells, loadCells, loadCellsFrom]
                · subst q4
                  have := run_cells P w2 (K.β b) o vs (fun j u hu => by rw [hw]; exact (k2 j u hu).1)
                  rw [k1] at this
                  exact this
              obtain ⟨cap2, rest, g1, g2, g3⟩ := run_append_grows ht hts hi hs1 hpos hb2 (base := some ⟨K.β b, o, none⟩) (m := m) (cp := cp) (old := vs) (x := x') hz hN hfit hsm hbt hold
              rw [g3]
              have hrl : rest.size = (cap2 - (m + n)) * sz := by rw [g2]; exact zeroCells_len hzs hpos
              have hol : ((c.drop off).take (m * sz)).length = m * sz := by rw [k3.len, k1]
              have hrow := grown_row (K := K) (bs := bs) (w := w) (old := vs) (us := us) (new := new) (rest := rest) k3 hNrep (fun j u hu => (k2 j u hu).2) hN.one e ⟨(i0.cl || cleanL ((c.drop off).take (m * sz))) && (ncl && plainL zc), sz, true, true⟩ (fun h => by
                simp only [Bool.and_eq_true, Bool.or_eq_true] at h
                exact cleanL_app_of (h.1.elim k4 id) (hN.clean h.2.1)) rfl
              refine good_row (cap := none) (n := m + n) (cp := cap2) hr hn rfl hrow (by simp [verA]) g1 (fun m hm => by cases hm) (fun _ => ?_) _ (w.drawn + 1) rfl
              simp only [List.length_append]
              rw [hNlen, hrl, hnewl, hol, k1]
              have h8 : (cap2 - (m + n)) * sz + (m * sz + n * sz) = cap2 * sz := by rw [← Nat.add_mul, ← Nat.add_mul]; congr 1; omega
              have h9 := le_mul_cap (sz := sz) g1
              rw [Nat.add_mul] at h9
              omega
          · exact (fail_run hm).elim
        · -- a row of an open block
          rename_i b off m ver
          obtain ⟨y, o, cp, rfl, q1, q2, q3, q4, q5⟩ := hs.inv_rsl
          simp only [lenOfA, Option.getD_some] at hsm hbt
          have hm' := blk_run hm
          clear hm
          obtain ⟨blk, hb, hm⟩ := hm'
          split at hm
          · rename_i c i0
            split at hm
            · rename_i hcd
              obtain ⟨hv0, hop, hw, hsz0, hcl⟩ := hcd
              have hv : ver = verOf c i0 := by unfold verOf verA; rw [hop]; exact hv0
              obtain ⟨k1, k2⟩ := q5 c i0 hb hv
              obtain ⟨k3, k4⟩ := k2 rfl
              subst k1
              rw [hsz0] at k3 k4
              obtain ⟨cc, el, lo, hi', ws, r1, r2, r3, r4, r5, r6⟩ := hr.row hb
              split at hm
              · rename_i hext
                obtain ⟨rfl, hcm⟩ := hext
                have := ret_run hm; subst this
                have hwl : ws.length = m * sz := by rw [← r5.len, hcm]
                have hmul : (m + n) * sz = m * sz + n * sz := Nat.add_mul _ _ _
                by_cases hfit : m + n ≤ cp
                · -- in place
                  have h9 := le_mul_cap (sz := sz) hfit
                  have hput := run_put P us (K.β b) (m * sz) 0 w cc el lo hi' r1 r2.not (by rw [r3, hNlen]; omega) (fun v hv => by
                    obtain ⟨j, hj⟩ := List.getElem?_of_mem hv
                    exact hN.one j v hj)
                  rw [Nat.add_zero] at hput
                  have hst : ∀ a, some (⟨K.β b, o, none⟩ : Addr) = some a → (storeCells (a.add (m * sz)) us).run P w = .ok () { w with heap := rowPut w.heap (K.β b) (spliceV cc.toList (m * sz) us) } := by
                    intro a ha
                    cases ha
                    rw [add_addr]
                    rcases q4 with q4 | q4
                    · have hm0 : m = 0 := by omega
                      have hn0 : n = 0 := by omega
                      subst hm0 hn0
                      have hus : us = [] := List.eq_nil_of_length_eq_zero (by rw [hNlen]; simp)
                      rw [hus] at hput ⊢
                      exact hput
                    · rw [q4, Nat.zero_add]; exact hput
                  rw [run_append_fits ht hts hi hs1 hpos hb2 hN hfit hbt hst (fun h => by cases h)]
                  have hsl : (spliceV cc.toList (m * sz) us).length = cc.size := by rw [spliceV_len _ _ _ (by rw [Array.length_toList (xs := cc), r3, hNlen]; omega)]; simp
                  have hget : (bs.set b (.cells (c ++ new) i0))[b]? = some (.cells (c ++ new) i0) := by simp [(List.getElem?_eq_some_iff.1 hb).1]
                  have u : Upd K bs w.heap b (K.β b) (K.κ b) (.cells (c ++ new) i0) (.cells (spliceV cc.toList (m * sz) us).toArray el (lo, hi')) (bs.set b (.cells (c ++ new) i0)) (rowPut w.heap (K.β b) (spliceV cc.toList (m * sz) us)) := by
                    refine ⟨hget, fun d hd => by rw [List.getElem?_set, if_neg (fun e => hd e.symm)], by rw [rowPut_size]; exact Nat.le_refl _, rowPut_here r1 _, fun d _ hd => rowPut_there _ hd,
                      .inr (.inr ⟨_, hb, hw, ⟨rfl, rfl, fun h => by rw [hop] at h; cases h⟩, ?_, fun _ => ⟨rfl, rfl⟩⟩), .inr ⟨rfl, _, hb, hw⟩, rfl, hw, ?_⟩
                    · simp [AB.ver, verA, hop]
                    · refine ⟨_, el, lo, hi', ws ++ us, rfl, by rw [List.size_toArray, hsl]; exact r2, by rw [List.size_toArray, hsl, r3], ?_, r5.app hNrep, fun h => cleanL_app_of (r6 h) (hcl.elim (fun h' => by rw [h] at h'; cases h') hN.clean)⟩
                      intro j v hv
                      rw [List.getElem?_toArray, spliceV_get _ _ _ (by rw [Array.length_toList (xs := cc), r3, hNlen]; omega)]
                      rw [List.getElem?_append] at hv
                      split at hv
                      · rename_i hj
                        rw [if_pos (by omega)]
                        simpa using r4 j v hv
                      · rename_i hj
                        have hj2 := (List.getElem?_eq_some_iff.1 hv).1
                        rw [if_neg (by omega), if_pos (by omega)]
                        rw [hwl] at hv
                        exact ⟨hv, hN.one _ _ hv⟩
                  have hbs : appBs bs nid (.blk b (.cells (c ++ new) i0)) = bs.set b (.cells (c ++ new) i0) := rfl
                  rw [show (ValGood K bs w nid (.rsl b 0 (m + n) none ((c ++ new).length + 1), .blk b (.cells (c ++ new) i0)) _) = _ from rfl]
                  refine ⟨_, _, _, rfl, ⟨u.tr hr, u.hr hr, rfl, rfl, rfl⟩, ?_⟩
                  refine .rsl ⟨_, hget, rfl, fun _ => by simp [AB.ver, verA, hop]⟩ hfit (fun m hm => by cases hm) q4 fun c' i' hc' hv' => ?_
                  rw [hbs, hget] at hc'
                  cases hc'
                  simp only [updN_same]
                  refine ⟨trivial, fun _ => ?_⟩
                  rw [hsz0, List.length_append, hcm, hnewl]
                  omega
                · -- a new row
                  have hpos2 : 0 < n := by omega
                  have hold : ∀ w2 : World, w2.heap = w.heap → (Builtin.firstCells sz m (.slice (some ⟨K.β b, o, none⟩) m cp)).run P w2 = .ok ws.toArray w2 := by
                    intro w2 hw2
                    rcases q4 with q4 | q4
                    · have hm0 : m = 0 := by omega
                      subst hm0
                      have hvs : ws = [] := List.eq_nil_of_length_eq_zero (by omega)
                      subst hvs
                      simp [Builtin.firstCells, loadCells, loadCellsFrom]
                    · subst q4
                      have := run_cells P w2 (K.β b) 0 ws (fun j u hu => by
                        rw [hw2, Nat.zero_add]
                        unfold cellH
                        rw [r1]
                        exact (r4 j u hu).1)
                      rw [hwl] at this
                      exact this
                  obtain ⟨cap2, rest, g1, g2, g3⟩ := run_append_grows ht hts hi hs1 hpos hb2 (base := some ⟨K.β b, o, none⟩) (m := m) (cp := cp) (old := ws) (x := x') hz hN hfit hsm hbt hold
                  rw [g3]
                  have hrl : rest.size = (cap2 - (m + n)) * sz := by rw [g2]; exact zeroCells_len hzs hpos
                  have hrow := grown_row (K := K) (bs := bs) (w := w) (old := ws) (us := us) (new := new) (rest := rest) r5 hNrep (fun j u hu => (r4 j u hu).2) hN.one e i0 (fun h => cleanL_app_of (r6 h) (hcl.elim (fun h' => by rw [h] at h'; cases h') hN.clean)) rfl
                  have hget : (bs.set b (.cells (c ++ new) i0))[b]? = some (.cells (c ++ new) i0) := by simp [(List.getElem?_eq_some_iff.1 hb).1]
                  have hlt := hr.lt b _ hb rfl
                  have u : Upd K bs w.heap b w.heap.size (ws.length + us.length + rest.size) (.cells (c ++ new) i0) (.cells (ws.toArray ++ us.toArray ++ rest) e (0, 0)) (bs.set b (.cells (c ++ new) i0)) (w.heap.push (.cells (ws.toArray ++ us.toArray ++ rest) e)) := by
                    refine ⟨hget, fun d hd => by rw [List.getElem?_set, if_neg (fun e => hd e.symm)], by simp, get_push_last _ _, fun d hd _ => get_push_lt _ hd,
                      .inr (.inr ⟨_, hb, hw, ⟨rfl, rfl, fun h => by rw [hop] at h; cases h⟩, ?_, fun he => ?_⟩), .inl (Nat.le_refl _), rfl, hw, hrow⟩
                    · simp [AB.ver, verA, hop]
                    · exfalso
                      have := Nat.mul_pos hpos2 hpos
                      simp [AB.ver, verA, hop, hnewl] at he
                      omega
                  have hbs : appBs bs nid (.blk b (.cells (c ++ new) i0)) = bs.set b (.cells (c ++ new) i0) := rfl
                  have htr := u.tr hr
                  have hhr := u.hr hr
                  refine ⟨_, _, _, rfl, ⟨htr, hhr, rfl, rfl, rfl⟩, ?_⟩
                  refine .rsl ⟨_, hget, rfl, fun _ => by simp [AB.ver, verA, hop]⟩ g1 (fun m hm => by cases hm) (.inr rfl) fun c' i' hc' hv' => ?_
                  rw [hbs, hget] at hc'
                  cases hc'
                  simp only [updN_same]
                  refine ⟨trivial, fun _ => ?_⟩
                  rw [hsz0, List.length_append, hcm, hnewl, hwl, hNlen, hrl]
                  have h8 : (cap2 - (m + n)) * sz + (m * sz + n * sz) = cap2 * sz := by rw [← Nat.add_mul, ← Nat.add_mul]; congr 1; omega
                  have h9 := le_mul_cap (sz := sz) g1
                  omega
              · split at hm
                · rename_i hl
                  have := ret_run hm; subst this
                  have hmul : (m + n) * sz = m * sz + n * sz := Nat.add_mul _ _ _
                  have hfit : m + n ≤ cp := by
                    have h1 : (m + n) * sz ≤ cp * sz := by omega
                    exact Nat.le_of_mul_le_mul_right h1 hpos
                  obtain ⟨K', w', hrun, hg⟩ := goes_put (nid := nid) (off := off + m * sz) (vs := new) hr P hb hw (by rw [hnewl]; omega) hNrep hN.one (fun h => by
                    rcases hcl with h' | h'
                    · rw [h] at h'; cases h'
                    · exact hN.clean h')
                  have hst : ∀ a, some (⟨K.β b, o, none⟩ : Addr) = some a → (storeCells (a.add (m * sz)) us).run P w = .ok () w' := by
                    intro a ha
                    cases ha
                    rw [add_addr]
                    rcases q4 with q4 | q4
                    · have hm0 : m = 0 := by omega
                      have hn0 : n = 0 := by omega
                      subst hm0 hn0
                      have hus : us = [] := List.eq_nil_of_length_eq_zero (by rw [hNlen]; simp)
                      rw [hus] at hrun ⊢
                      exact hrun
                    · rw [q4]; exact hrun
                  rw [run_append_fits ht hts hi hs1 hpos hb2 hN hfit hbt hst (fun h => by cases h)]
                  refine ⟨_, w', K', rfl, hg, ?_⟩
                  have hL := hg.lat hr
                  have hs2 : RepV K bs w.heap (.rsl b off (m + n) none ver) (.slice (some ⟨K.β b, o, none⟩) (m + n) cp) := .rsl q1 hfit q3 q4 fun c i hc hv => q5 c i hc hv
                  exact hs2.mono hL
                · exact (fail_run hm).elim
            · exact (fail_run hm).elim
          · exact (fail_run hm).elim
        · exact (fail_run hm).elim
      · exact (fail_run hm).elim
    · exact (fail_run hm).elim
  · exact (fail_run hm).elim
end ops
end Go.Proofs.Ytbebcbcnibfbhaa.Ab
