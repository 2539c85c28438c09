import Derived.Test.YtnkeijebkpjdgaaMLookKeeps2
import Derived.Laws.Append
set_option linter.unusedVariables false
set_option linter.unusedSimpArgs false
/- The engine, fifth text: what an operation does to memory. -/
namespace Go.Proofs.Ytnkeijebkpjdgaa.Ab
open Go

theorem add_addr (b o n : Nat) : (⟨b, o, none⟩ : Addr).add n = ⟨b, o + n, none⟩ := by
  unfold Addr.add
  split
  · subst_vars; rfl
  · rfl
theorem oneA_one {K : KS} {bs : List AB} {hp : Array Obj} {a : AV} {v : Value} (h : RepV K bs hp a v) (ho : oneA a = true) : v.oneCell' = true := by
  cases h with
  | clean h => cases h <;> first | rfl | (simp [oneA] at ho)
  | ref _ _ => rfl
  | rsl _ _ _ _ _ => rfl
  | mref _ _ => rfl
  | yc _ _ => rfl
  | fn _ _ => rfl
  | ifc _ => rfl
  | agg _ => simp [oneA] at ho
  | tup _ => simp [oneA] at ho
theorem oneL_one {K : KS} {bs : List AB} {hp : Array Obj} {l : List AV} {vs : List Value} (h : RepVL K bs hp l vs) (ho : oneL l = true) : ∀ (j : Nat) (u : Value), vs[j]? = some u → u.oneCell' = true := by
  induction l generalizing vs with
  | nil => cases h; intro j u hu; simp at hu
  | cons a l ih =>
    cases h with
    | cons h0 h =>
      simp only [oneL, Bool.and_eq_true] at ho
      intro j u hu
      cases j with
      | zero => simp at hu; subst hu; exact oneA_one h0 ho.1
      | succ j => exact ih h ho.2 j u (by simpa using hu)

/-- The cells that stand for a block. -/
theorem HR.row {K : KS} {bs : List AB} {hp : Array Obj} (hr : HR K bs hp) {b : Nat} {c : List AV} {i : BI} (hb : bs[b]? = some (.cells c i)) :
    ∃ (cc : Array Value) (e : TypeId) (lo hi : Nat) (us : List Value), hp[K.β b]? = some (.cells cc e (lo, hi)) ∧ Unfr cc.size lo hi ∧ cc.size = K.κ b ∧
      (∀ (j : Nat) (u : Value), us[j]? = some u → cc[j]? = some u ∧ u.oneCell' = true) ∧ RepVL K bs hp c us ∧ (i.cl = true → cleanL c = true) := by
  obtain ⟨o, ho, cc, e, lo, hi, us, rfl, h⟩ := hr.obj b _ hb rfl
  exact ⟨cc, e, lo, hi, us, ho, h⟩
theorem run_cells (P : Program) (w : World) (b o : Nat) (us : List Value) (h : ∀ (j : Nat) (u : Value), us[j]? = some u → cellH w.heap b (o + j) = some u) :
    (loadCells ⟨b, o, none⟩ us.length).run P w = .ok us.toArray w :=
  run_loadCells_list w _ us fun j v hv => by rw [add_addr, cell_eq]; exact h j v hv
/-- Reading n cells of a numbered block. -/
theorem read_cells {K : KS} {bs : List AB} {w : World} (hr : HR K bs w.heap) {b off n : Nat} {c : List AV} {i : BI} (hb : bs[b]? = some (.cells c i)) (hn : off + n ≤ c.length) :
    ∃ us, us.length = n ∧ (∀ (j : Nat) (u : Value), us[j]? = some u → cellH w.heap (K.β b) (off + j) = some u ∧ u.oneCell' = true) ∧ RepVL K bs w.heap ((c.drop off).take n) us ∧ (i.cl = true → cleanL ((c.drop off).take n) = true) := by
  obtain ⟨cc, e, lo, hi, us, h1, h2, h3, h4, h5, h6⟩ := hr.row hb
  refine ⟨(us.drop off).take n, ?_, ?_, (h5.drop _).take _, fun hc => ((h5.toP (h6 hc)).drop off |>.take n).isClean⟩
  · rw [List.length_take, List.length_drop, ← h5.len]; omega
  · intro j u hu
    rw [List.getElem?_take] at hu
    split at hu
    · rw [List.getElem?_drop] at hu
      have := h4 _ _ hu
      refine ⟨?_, this.2⟩
      unfold cellH
      rw [h1]
      exact this.1
    · cases hu
theorem read_cell {K : KS} {bs : List AB} {w : World} (hr : HR K bs w.heap) {b off : Nat} {c : List AV} {i : BI} (hb : bs[b]? = some (.cells c i)) {a : AV} (ha : c[off]? = some a) :
    ∃ u, cellH w.heap (K.β b) off = some u ∧ RepV K bs w.heap a u ∧ u.oneCell' = true := by
  obtain ⟨cc, e, lo, hi, us, h1, h2, h3, h4, h5, h6⟩ := hr.row hb
  obtain ⟨u, hu, hR⟩ := h5.get ha
  have := h4 _ _ hu
  refine ⟨u, ?_, hR, this.2⟩
  unfold cellH
  rw [h1]
  exact this.1

/-! What is new; what is put. -/
def appBs (bs : List AB) (nid : Nat) (w : WL) : List AB := (H.app ⟨bs, []⟩ nid w).bs
theorem app_bs (h : H) (nid : Nat) (w : WL) : (h.app nid w).bs = appBs h.bs nid w := by
  unfold appBs
  cases w with
  | none => rfl
  | new b => simp only [H.app]; split <;> rfl
  | put b off vs => simp only [H.app]; split <;> rfl
  | blk b x => rfl
/-- How a later state stands to an earlier one. -/
structure Goes (K : KS) (bs : List AB) (w : World) (K' : KS) (bs' : List AB) (w' : World) : Prop where
  tr : Tr K bs w.heap K' bs' w'.heap
  hr : HR K' bs' w'.heap
  os : w'.os = w.os
  tape : w'.tape = w.tape
  output : w'.output = w.output
theorem Goes.refl {K : KS} {bs : List AB} {w : World} (hr : HR K bs w.heap) : Goes K bs w K bs w := ⟨Tr.refl _ _ _, hr, rfl, rfl, rfl⟩
theorem Goes.trans {K K' K'' : KS} {bs bs' bs'' : List AB} {w w' w'' : World} (h : Goes K bs w K' bs' w') (k : Goes K' bs' w' K'' bs'' w'') : Goes K bs w K'' bs'' w'' :=
  ⟨h.tr.trans k.tr, k.hr, k.os.trans h.os, k.tape.trans h.tape, k.output.trans h.output⟩
theorem Goes.lat {K K' : KS} {bs bs' : List AB} {w w' : World} (h : Goes K bs w K' bs' w') (hr : HR K bs w.heap) : Lat K bs w.heap K' bs' w'.heap := h.tr.lat hr
/-- A draw changes nothing. -/
theorem Goes.drew {K : KS} {bs : List AB} {w : World} (hr : HR K bs w.heap) (n : Nat) : Goes K bs w K bs { w with drawn := n } := ⟨Tr.refl _ _ _, hr, rfl, rfl, rfl⟩

theorem get_push_last (hp : Array Obj) (o : Obj) : (hp.push o)[hp.size]? = some o := by simp
theorem get_push_lt {hp : Array Obj} (o : Obj) {c : Nat} (h : c < hp.size) : (hp.push o)[c]? = hp[c]? := by
  rw [Array.getElem?_push, if_neg (by omega)]
theorem app_new_get (bs : List AB) (nid : Nat) (x : AB) (hn : nid = bs.length ∨ bs[nid]? = some .void) :
    (appBs bs nid (.new x))[nid]? = some x ∧ ∀ b, b ≠ nid → (appBs bs nid (.new x))[b]? = bs[b]? := by
  simp only [appBs, H.app]
  by_cases h : nid = bs.length
  · rw [if_pos h]
    subst h
    simp only
    refine ⟨by simp, fun b hb => ?_⟩
    rw [List.getElem?_append]
    split
    · rfl
    · rw [List.getElem?_eq_none (by simp; omega), List.getElem?_eq_none (by omega)]
  · rw [if_neg h]
    have h' := hn.resolve_left h
    have hlt := (List.getElem?_eq_some_iff.1 h').1
    simp only
    refine ⟨by simp [hlt], fun b hb => ?_⟩
    rw [List.getElem?_set]
    rw [if_neg (fun e => hb e.symm)]
theorem goes_new {K : KS} {bs : List AB} {w : World} (hr : HR K bs w.heap) {nid : Nat} (hn : nid = bs.length ∨ bs[nid]? = some .void) {x : AB} {o : Obj} {k : Nat} (hx : x.wrt = true) (ho : ObjR K bs w.heap k x o) :
    ∃ K', Goes K bs w K' (appBs bs nid (.new x)) { w with heap := w.heap.push o } ∧ K'.β nid = w.heap.size ∧ K'.κ nid = k := by
  obtain ⟨h1, h2⟩ := app_new_get bs nid x hn
  have u : Upd K bs w.heap nid w.heap.size k x o (appBs bs nid (.new x)) (w.heap.push o) :=
    ⟨h1, h2, by simp, get_push_last _ _, fun c hc _ => get_push_lt o hc, hn.imp id .inl, .inl (Nat.le_refl _), wrt_live hx, hx, ho⟩
  exact ⟨_, ⟨u.tr hr, u.hr hr, rfl, rfl, rfl⟩, updN_same _ _ _, updN_same _ _ _⟩

/-- Cells, some of them written over. -/
def spliceV (c : List Value) (off : Nat) (vs : List Value) : List Value := c.take off ++ vs ++ c.drop (off + vs.length)
theorem set_splice {α : Type} (c : List α) (off : Nat) (v : α) (h : off + 1 ≤ c.length) : c.set off v = c.take off ++ [v] ++ c.drop (off + 1) := by
  apply List.ext_getElem?
  intro j
  rw [List.getElem?_set]
  by_cases h1 : off = j
  · subst h1
    rw [if_pos rfl, if_pos (by omega)]
    rw [List.append_assoc, List.getElem?_append_right (by simp; omega)]
    simp [List.length_take, Nat.min_eq_left (show off ≤ c.length by omega)]
  · rw [if_neg h1]
    rcases Nat.lt_or_ge j off with h2 | h2
    · rw [List.append_assoc, List.getElem?_append_left (by simp; omega), List.getElem?_take, if_pos h2]
    · rw [List.getElem?_append_right (by simp; omega), List.getElem?_drop]
      congr 1
      simp
      omega
theorem splice_len : ∀ (c : List AV) (off : Nat) (vs : List AV), (splice c off vs).length = c.length
  | [], _, _ => rfl
  | x :: c, 0, [] => rfl
  | x :: c, 0, v :: vs => by simp only [splice, List.length_cons, splice_len c 0 vs]
  | x :: c, n + 1, vs => by simp only [splice, List.length_cons, splice_len c n vs]
theorem splice_get : ∀ (c : List AV) (off : Nat) (vs : List AV) (j : Nat), (splice c off vs)[j]? = if off ≤ j ∧ j < off + vs.length ∧ j < c.length then vs[j - off]? else c[j]?
  | [], _, _, j => by simp [splice]
  | x :: c, 0, [], j => by simp [splice]
  | x :: c, 0, v :: vs, 0 => by simp [splice]
  | x :: c, 0, v :: vs, j + 1 => by
    have := splice_get c 0 vs j
    simp only [splice, List.getElem?_cons_succ, this, List.length_cons, Nat.zero_le, true_and, Nat.zero_add, Nat.sub_zero, Nat.add_lt_add_iff_right]
  | x :: c, n + 1, vs, 0 => by simp [splice]
  | x :: c, n + 1, vs, j + 1 => by
    have := splice_get c n vs j
    simp only [splice, List.getElem?_cons_succ, this, List.length_cons, Nat.add_le_add_iff_right, Nat.add_lt_add_iff_right, Nat.add_sub_add_right]
    have e : (j + 1 < n + 1 + vs.length) ↔ (j < n + vs.length) := by omega
    simp only [e]
theorem splice_eq (c : List AV) (off : Nat) (vs : List AV) (h : off + vs.length ≤ c.length) : splice c off vs = c.take off ++ vs ++ c.drop (off + vs.length) := by
  apply List.ext_getElem?
  intro j
  rw [splice_get]
  by_cases h1 : j < off
  · rw [if_neg (by omega), List.append_assoc, List.getElem?_append_left (by simp; omega), List.getElem?_take, if_pos h1]
  · by_cases h2 : j < off + vs.length
    · rw [if_pos (by omega), List.append_assoc, List.getElem?_append_right (by simp; omega), List.getElem?_append_left (by simp; omega)]
      simp [Nat.min_eq_left (show off ≤ c.length by omega)]
    · rw [if_neg (by omega), List.getElem?_append_right (by simp; omega), List.getElem?_drop]
      congr 1
      simp
      omega
theorem spliceV_len (c : List Value) (off : Nat) (vs : List Value) (h : off + vs.length ≤ c.length) : (spliceV c off vs).length = c.length := by
  unfold spliceV
  simp
  omega
theorem splice_rep {K : KS} {bs : List AB} {hp : Array Obj} {c vs : List AV} {us ws : List Value} {off : Nat} (h : RepVL K bs hp c us) (k : RepVL K bs hp vs ws) (hl : off + vs.length ≤ c.length) :
    RepVL K bs hp (splice c off vs) (spliceV us off ws) := by
  rw [splice_eq c off vs hl]
  unfold spliceV
  rw [← k.len]
  exact ((h.take _).app k).app (h.drop _)
theorem spliceV_get (c : List Value) (off : Nat) (vs : List Value) (h : off + vs.length ≤ c.length) (j : Nat) : (spliceV c off vs)[j]? = if j < off then c[j]? else if j < off + vs.length then vs[j - off]? else c[j]? := by
  unfold spliceV
  by_cases h1 : j < off
  · rw [if_pos h1, List.append_assoc, List.getElem?_append_left (by simp; omega), List.getElem?_take, if_pos h1]
  · rw [if_neg h1]
    by_cases h2 : j < off + vs.length
    · rw [if_pos h2, List.append_assoc, List.getElem?_append_right (by simp; omega), List.getElem?_append_left (by simp; omega)]
      simp [Nat.min_eq_left (show off ≤ c.length by omega)]
    · rw [if_neg h2, List.getElem?_append_right (by simp; omega), List.getElem?_drop]
      congr 1
      simp
      omega
theorem mem_splice {α : Type} {c : List α} {off n : Nat} {vs : List α} {x : α} (h : x ∈ c.take off ++ vs ++ c.drop (off + n)) : x ∈ c ∨ x ∈ vs := by
  rcases List.mem_append.1 h with h | h
  · rcases List.mem_append.1 h with h | h
    · exact .inl (List.mem_of_mem_take h)
    · exact .inr h
  · exact .inl (List.mem_of_mem_drop h)
theorem splice_mem {c vs : List AV} {off : Nat} {x : AV} (h : x ∈ splice c off vs) : x ∈ c ∨ x ∈ vs := by
  obtain ⟨j, hj⟩ := List.getElem?_of_mem h
  rw [splice_get] at hj
  split at hj
  · exact .inr (List.mem_of_getElem? hj)
  · exact .inl (List.mem_of_getElem? hj)
theorem cleanL_mem {l : List AV} : cleanL l = true ↔ ∀ a ∈ l, a.clean = true := by
  induction l with
  | nil => simp [cleanL]
  | cons a l ih => simp [cleanL, ih]

/-- A row of the heap with other cells. -/
def rowPut (hp : Array Obj) (g : Nat) (c : List Value) : Array Obj :=
  hp.modify g fun
    | .cells _ e f => .cells c.toArray e f
    | o => o
theorem rowPut_here {hp : Array Obj} {g : Nat} {cc : Array Value} {e : TypeId} {f : Nat × Nat} (h : hp[g]? = some (.cells cc e f)) (c : List Value) : (rowPut hp g c)[g]? = some (.cells c.toArray e f) := by
  unfold rowPut
  rw [Array.getElem?_modify, if_pos rfl, h]
  rfl
theorem rowPut_there {hp : Array Obj} {g d : Nat} (c : List Value) (h : d ≠ g) : (rowPut hp g c)[d]? = hp[d]? := by
  unfold rowPut
  rw [Array.getElem?_modify, if_neg (fun e => h e.symm)]
theorem rowPut_size (hp : Array Obj) (g : Nat) (c : List Value) : (rowPut hp g c).size = hp.size := by
  unfold rowPut
  rw [Array.size_modify]
theorem run_put (P : Program) : ∀ (vs : List Value) (g o i : Nat) (w : World) (cc : Array Value) (e : TypeId) (lo hi : Nat), w.heap[g]? = some (.cells cc e (lo, hi)) → (∀ j, j < cc.size → ¬ (lo ≤ j ∧ j < hi)) →
    o + i + vs.length ≤ cc.size → (∀ v ∈ vs, v.oneCell' = true) → (storeCells ⟨g, o, none⟩ vs i).run P w = .ok () { w with heap := rowPut w.heap g (spliceV cc.toList (o + i) vs) }
  | [], g, o, i, w, cc, e, lo, hi, hg, _, _, _ => by
    simp only [storeCells, spliceV, List.append_nil, List.length_nil, Nat.add_zero, List.take_append_drop]
    have : rowPut w.heap g cc.toList = w.heap := by
      apply Array.ext_getElem?
      intro j
      by_cases h : j = g
      · subst h; rw [rowPut_here hg, hg]
      · rw [rowPut_there _ h]
    rw [this]
    rfl
  | v :: vs, g, o, i, w, cc, e, lo, hi, hg, hfz, hl, h1 => by
    have hi' : o + i < cc.size := by simp at hl; omega
    have hcell : w.cell? ⟨g, o + i, none⟩ = some cc[o + i] := by simp [World.cell?, hg, hi']
    have hfro : w.frozen? ⟨g, o + i, none⟩ = false := by
      simp only [World.frozen?, hg, Bool.and_eq_false_iff, decide_eq_false_iff_not]
      have := hfz _ hi'
      omega
    have hset : w.setCell ⟨g, o + i, none⟩ v = { w with heap := rowPut w.heap g (spliceV cc.toList (o + i) [v]) } := by
      unfold World.setCell
      congr 1
      apply Array.ext_getElem?
      intro j
      by_cases h : j = g
      · subst h
        rw [rowPut_here hg, Array.getElem?_modify, if_pos rfl, hg]
        simp only [Option.map_some, Option.isSome_none, Bool.false_eq_true, if_false]
        congr 2
        apply Array.ext'
        rw [Array.toList_setIfInBounds]
        exact set_splice _ _ _ (by simp only [Array.length_toList]; omega)
      · rw [rowPut_there _ h, Array.getElem?_modify, if_neg (fun e => h e.symm)]
    have hst : (store ((⟨g, o, none⟩ : Addr).add i) v).run P w = .ok () { w with heap := rowPut w.heap g (spliceV cc.toList (o + i) [v]) } := by
      rw [add_addr, run_store P w _ v _ (h1 v (by simp)), hcell]
      simp [hfro, hset]
    have hlen : (spliceV cc.toList (o + i) [v]).length = cc.size := by
      rw [spliceV_len _ _ _ (by simp only [Array.length_toList, List.length_cons, List.length_nil]; omega)]
      simp
    have ih := run_put P vs g o (i + 1) { w with heap := rowPut w.heap g (spliceV cc.toList (o + i) [v]) } (spliceV cc.toList (o + i) [v]).toArray e lo hi (rowPut_here hg _) (by simpa [hlen] using hfz) (by simp [hlen] at hl ⊢; omega) (fun x hx => h1 x (by simp [hx]))
    simp only [storeCells, Sem.run_bind, hst, Result.andThen_ok, ih]
    congr 2
    apply Array.ext_getElem?
    intro j
    by_cases h : j = g
    · subst h
      rw [rowPut_here (rowPut_here hg _), rowPut_here hg]
      congr 3
      apply List.ext_getElem?
      intro k
      simp only [List.length_cons] at hl
      have e1 := spliceV_get (spliceV cc.toList (o + i) [v]) (o + (i + 1)) vs (by rw [hlen]; omega) k
      have e2 := spliceV_get cc.toList (o + i) [v] (by simp; omega) k
      have e3 := spliceV_get cc.toList (o + i) (v :: vs) (by simp; omega) k
      simp only [List.length_cons, List.length_nil] at e2 e3
      by_cases k1 : k < o + i
      · rw [if_pos (by omega)] at e1
        rw [if_pos k1] at e2 e3
        rw [List.toList_toArray, e1, e2, e3]
      · rw [if_neg k1] at e2 e3
        by_cases k2 : k = o + i
        · rw [if_pos (by omega)] at e1
          rw [if_pos (by omega)] at e2 e3
          rw [List.toList_toArray, e1, e2, e3, k2]
          simp
        · rw [if_neg (by omega)] at e1
          rw [if_neg (by omega)] at e2
          by_cases k3 : k < o + (i + 1) + vs.length
          · rw [if_pos k3] at e1
            rw [if_pos (by omega), show k - (o + i) = (k - (o + (i + 1))) + 1 by omega, List.getElem?_cons_succ] at e3
            rw [List.toList_toArray, e1, e3]
          · rw [if_neg k3] at e1
            rw [if_neg (by omega)] at e3
            rw [List.toList_toArray, e1, e2, e3]
    · rw [rowPut_there _ h, rowPut_there _ h, rowPut_there _ h]

/-- A store into a numbered block. -/
theorem goes_put {K : KS} {bs : List AB} {w : World} (hr : HR K bs w.heap) (P : Program) {nid b off : Nat} {c vs : List AV} {i : BI} {us : List Value} (hb : bs[b]? = some (.cells c i)) (hw : i.wr = true) (hl : off + vs.length ≤ c.length)
    (hu : RepVL K bs w.heap vs us) (h1 : ∀ (j : Nat) (u : Value), us[j]? = some u → u.oneCell' = true) (hc : i.cl = true → cleanL vs = true) :
    ∃ K' w', (storeCells ⟨K.β b, off, none⟩ us).run P w = .ok () w' ∧ Goes K bs w K' (appBs bs nid (.put b off vs)) w' := by
  obtain ⟨cc, e, lo, hi, ws, g1, g2, g3, g4, g5, g6⟩ := hr.row hb
  have hcl : c.length ≤ cc.size := by
    rcases Nat.lt_or_ge cc.size c.length with hh | hh
    · exfalso
      have hlt : cc.size < ws.length := by rw [← g5.len]; exact hh
      have := (g4 cc.size ws[cc.size] (List.getElem?_eq_getElem hlt)).1
      rw [Array.getElem?_eq_none (Nat.le_refl _)] at this
      cases this
    · exact hh
  have hlu : us.length = vs.length := hu.len.symm
  have hrun := run_put P us (K.β b) off 0 w cc e lo hi g1 g2.not (by omega) (fun v hv => by
    obtain ⟨j, hj⟩ := List.getElem?_of_mem hv
    exact h1 j v hj)
  rw [Nat.add_zero] at hrun
  have hbs : appBs bs nid (.put b off vs) = bs.set b (.cells (splice c off vs) i) := by simp [appBs, H.app, hb]
  have hlt : b < bs.length := (List.getElem?_eq_some_iff.1 hb).1
  have hlen : (spliceV cc.toList off us).length = cc.size := by rw [spliceV_len _ _ _ (by simp; omega)]; simp
  have u : Upd K bs w.heap b (K.β b) (K.κ b) (.cells (splice c off vs) i) (.cells (spliceV cc.toList off us).toArray e (lo, hi)) (bs.set b (.cells (splice c off vs) i)) (rowPut w.heap (K.β b) (spliceV cc.toList off us)) := by
    refine ⟨by simp [hlt], fun d hd => ?_, ?_, rowPut_here g1 _, fun d _ hd => rowPut_there _ hd, .inr (.inr ⟨_, hb, hw, ⟨rfl, rfl, fun _ => (splice_len c off vs).symm⟩, ?_, fun _ => ⟨rfl, rfl⟩⟩), .inr ⟨rfl, _, hb, hw⟩, rfl, hw, ?_⟩
    · rw [List.getElem?_set, if_neg (fun e => hd e.symm)]
    · rw [rowPut_size]; exact Nat.le_refl _
    · simp [AB.ver, verA, splice_len c off vs]
    · refine ⟨_, e, lo, hi, spliceV ws off us, rfl, ?_, ?_, ?_, splice_rep g5 hu hl, ?_⟩
      · rw [List.size_toArray, hlen]
        exact g2
      · rw [List.size_toArray, hlen, g3]
      · intro j v hv
        have hwl : off + us.length ≤ ws.length := by rw [← g5.len]; omega
        rw [spliceV_get _ _ _ hwl] at hv
        rw [List.getElem?_toArray, spliceV_get _ _ _ (by simp; omega)]
        by_cases k1 : j < off
        · rw [if_pos k1] at hv ⊢
          simpa using g4 j v hv
        · rw [if_neg k1] at hv ⊢
          by_cases k2 : j < off + us.length
          · rw [if_pos k2] at hv ⊢
            exact ⟨hv, h1 _ _ hv⟩
          · rw [if_neg k2] at hv ⊢
            simpa using g4 j v hv
      · intro hcl'
        rw [cleanL_mem]
        intro a ha
        rw [splice_eq c off vs hl] at ha
        rcases mem_splice ha with h | h
        · exact cleanL_mem.1 (g6 hcl') a h
        · exact cleanL_mem.1 (hc hcl') a h
  rw [hbs]
  exact ⟨_, _, hrun, u.tr hr, u.hr hr, rfl, rfl, rfl⟩
end Go.Proofs.Ytnkeijebkpjdgaa.Ab
/- The engine, sixth text: the operations are sound (values, loads, stores, new blocks). -/
namespace Go.Proofs.Ytnkeijebkpjdgaa.Ab
open Go

section ty
variable {P : Program} {w : World} {t : TypeId}
theorem run_isAggA {b : Bool} (h : isAggA P t = some b) : (isAgg t).run P w = .ok b w := by
  unfold isAggA at h
  unfold isAgg underlying
  simp only [Sem.run_bind, run_program, Result.andThen_ok]
  cases hu : P.underlying t with
  | none => simp [hu] at h
  | some d =>
    simp only [hu] at h
    cases d <;> simp_all
theorem run_szOf {n : Nat} (h : szOf P t = some n) : (sizeOf t).run P w = .ok n w := by
  unfold szOf at h
  unfold sizeOf typeInfo
  cases hi : P.info? t with
  | none => simp [hi] at h
  | some i => simp [hi] at h; simp [hi, h]
theorem run_infoA {i : TypeInfo} (h : P.info? t = some i) : (typeInfo t).run P w = .ok i w := by
  unfold typeInfo
  simp [h]
theorem run_undA {d : TypeDesc} (h : P.underlying t = some d) : (underlying t).run P w = .ok d w := by
  unfold underlying
  simp [h]
theorem szOf_info {n : Nat} (h : szOf P t = some n) : ∃ i, P.info? t = some i ∧ i.size = n := by
  unfold szOf at h
  cases hi : P.info? t with
  | none => simp [hi] at h
  | some i => simp [hi] at h; exact ⟨i, rfl, h⟩
theorem bytesA_info {n : Nat} (h : bytesA P t = some n) : ∃ i, P.info? t = some i ∧ i.bytes = n := by
  unfold bytesA at h
  cases hi : P.info? t with
  | none => simp [hi] at h
  | some i => simp [hi] at h; exact ⟨i, rfl, h⟩
end ty

/-- A constant stands for itself. -/
theorem ofCell_rep (I : Nat → Prop) (hp : Array Obj) (v : Value) : RepP I hp (AV.ofCell v) v := by
  unfold AV.ofCell
  split
  · exact .bool _
  · exact .int _ _
  · exact .str _
  · exact .ptr0
  · exact .sl0
  · exact .map0
  · exact .fn0
  · exact .ifc0
  · exact .hole _
theorem ofCells_rep (I : Nat → Prop) (hp : Array Obj) (l : List Value) : RepPL I hp (l.map AV.ofCell) l := by
  induction l with
  | nil => exact .nil
  | cons v l ih => exact .cons (ofCell_rep I hp v) ih
theorem ofValue_rep (I : Nat → Prop) (hp : Array Obj) (v : Value) : RepP I hp (AV.ofValue v) v := by
  unfold AV.ofValue
  split
  · exact .agg (ofCells_rep I hp _)
  · exact ofCell_rep I hp v
theorem toCells_rep {K : KS} {bs : List AB} {hp : Array Obj} {a : AV} {v : Value} (h : RepV K bs hp a v) {c : List AV} (hc : a.toCells = some c) (ho : oneL c = true) : RepVL K bs hp c v.cells.toList := by
  unfold AV.toCells at hc
  split at hc
  · cases hc
    obtain ⟨vs, rfl, h1⟩ := h.inv_agg
    exact h1
  · cases hc
  · cases hc
  · rename_i h1 h2 h3
    cases hc
    have hone : v.oneCell' = true := by
      refine oneA_one h ?_
      simpa [oneL] using ho
    have hv : v.cells = #[v] := by cases v <;> first | rfl | (simp [Value.oneCell'] at hone)
    rw [hv]
    exact .cons h .nil
/-- What an operation hands on. -/
def outVal : Result Next → Option (Value × World)
  | .ok (.value v) w => some (v, w)
  | .ok .skip w => some (undef, w)
  | _ => none
def OpGood (K : KS) (bs : List AB) (w : World) (nid : Nat) (x : Out) (r : Result Next) : Prop :=
  ∃ v' w' K', outVal r = some (v', w') ∧ Goes K bs w K' (appBs bs nid x.2) w' ∧ RepV K' (appBs bs nid x.2) w'.heap x.1 v'
def ValGood (K : KS) (bs : List AB) (w : World) (nid : Nat) (x : Out) (r : Result Value) : Prop :=
  ∃ v' w' K', r = .ok v' w' ∧ Goes K bs w K' (appBs bs nid x.2) w' ∧ RepV K' (appBs bs nid x.2) w'.heap x.1 v'
/-- An operation that reads, at most. -/
theorem good_none {K : KS} {bs : List AB} {w : World} (hr : HR K bs w.heap) {nid : Nat} {a : AV} {v : Value} (h : RepV K bs w.heap a v) : ValGood K bs w nid (a, .none) (.ok v w) :=
  ⟨v, w, K, rfl, Goes.refl hr, h⟩
theorem pur_run {x : Option AV} {h : List AB} {r : Out} (hm : (pur x).run h = some r) : ∃ v, x = some v ∧ r = (v, .none) := by
  cases x with
  | none => simp [pur, AM.run] at hm
  | some v => simp [pur, AM.run] at hm; exact ⟨v, rfl, hm.symm⟩

section ops
variable {P : Program} {K : KS} {bs : List AB} {w : World}

theorem info_run {α : Type} {b : Nat} {k : BI → Nat → AM α} {r : α} (hm : (AM.info b k).run bs = some r) : ∃ c i, bs[b]? = some (.cells c i) ∧ (k i c.length).run bs = some r := by
  simp only [AM.run] at hm
  split at hm
  · rename_i c i hb
    exact ⟨c, i, hb, hm⟩
  · cases hm
theorem cells_run {α : Type} {b off n : Nat} {k : List AV → AM α} {r : α} (hm : (AM.cells b off n k).run bs = some r) : ∃ c i, bs[b]? = some (.cells c i) ∧ off + n ≤ c.length ∧ (k ((c.drop off).take n)).run bs = some r := by
  simp only [AM.run] at hm
  split at hm
  · rename_i c i hb
    split at hm
    · exact ⟨c, i, hb, ‹_›, hm⟩
    · cases hm
  · cases hm
theorem cell_run {α : Type} {b off : Nat} {k : AV → AM α} {r : α} (hm : (AM.cell b off k).run bs = some r) : ∃ c i v, bs[b]? = some (.cells c i) ∧ c[off]? = some v ∧ (k v).run bs = some r := by
  simp only [AM.run] at hm
  split at hm
  · rename_i c i hb
    split at hm
    · exact ⟨c, i, _, hb, ‹_›, hm⟩
    · cases hm
  · cases hm
theorem blk_run {α : Type} {b : Nat} {k : AB → AM α} {r : α} (hm : (AM.blk b k).run bs = some r) : ∃ x, bs[b]? = some x ∧ (k x).run bs = some r := by
  simp only [AM.run] at hm
  split at hm
  · exact ⟨_, ‹_›, hm⟩
  · cases hm
theorem ret_run {α : Type} {a r : α} (hm : (AM.ret a).run bs = some r) : r = a := by simp [AM.run] at hm; exact hm.symm
theorem fail_run {α : Type} {r : α} (hm : (AM.fail : AM α).run bs = some r) : False := by simp [AM.run] at hm

theorem load_sound (hr : HR K bs w.heap) {nid : Nat} {t : TypeId} {a : AV} {a' : Value} (ha : RepV K bs w.heap a a') {r : Out} (hm : (loadA P t a).run bs = some r) :
    ∃ v', (Instr.loadAt t a').run P w = .ok v' w ∧ RepV K bs w.heap r.1 v' ∧ r.2 = .none := by
  have _ := nid
  unfold loadA at hm
  split at hm
  · rename_i n hag hsz
    split at hm
    · rename_i b off ver
      obtain ⟨c, i, hb, hm⟩ := info_run hm
      split at hm
      · rename_i hv
        obtain ⟨c2, i2, hb2, hn, hm⟩ := cells_run hm
        rw [hb] at hb2; cases hb2
        have := ret_run hm
        subst this
        obtain ⟨x, rfl, _, e⟩ := ha.inv_ref
        obtain rfl := e c i hb hv
        obtain ⟨us, h1, h2, h3, _⟩ := read_cells hr hb hn
        have hrun := run_cells P w (K.β b) off us (fun j u hu => (h2 j u hu).1)
        rw [h1] at hrun
        refine ⟨.agg us.toArray, ?_, .agg h3, rfl⟩
        simp [Instr.loadAt, Instr.sureAddr, loadVar, run_isAggA hag, run_szOf hsz, hrun]
      · exact (fail_run hm).elim
    · rename_i cells off
      split at hm
      · rename_i hn
        have := ret_run hm
        subst this
        obtain ⟨b, o, us, rfl, h1, h2, h3⟩ := ha.inv_vref
        have hlen := h3.len
        have hrun := run_cells P w b (o + off) ((us.drop off).take n) (fun j u hu => by
          rw [List.getElem?_take] at hu
          split at hu
          · rw [List.getElem?_drop] at hu
            rw [Nat.add_assoc]
            exact (h2 _ _ hu).1
          · cases hu)
        rw [List.length_take, List.length_drop, Nat.min_eq_left (by omega)] at hrun
        refine ⟨.agg ((us.drop off).take n).toArray, ?_, .clean (.agg ((h3.drop _).take _)), rfl⟩
        simp only [Instr.loadAt, Instr.sureAddr, loadVar, Sem.run_bind, Sem.run_pure, Result.andThen_ok, run_isAggA hag, run_szOf hsz, if_true, hrun]
      · exact (fail_run hm).elim
    · exact (fail_run hm).elim
  · rename_i n hag hsz
    split at hm
    · rename_i b off ver
      obtain ⟨c, i, hb, hm⟩ := info_run hm
      split at hm
      · rename_i hv
        obtain ⟨c2, i2, v, hb2, hn, hm⟩ := cell_run hm
        rw [hb] at hb2; cases hb2
        have := ret_run hm
        subst this
        obtain ⟨x, rfl, _, e⟩ := ha.inv_ref
        obtain rfl := e c i hb hv
        obtain ⟨u, h1, h2, _⟩ := read_cell hr hb hn
        refine ⟨u, ?_, h2, rfl⟩
        simp [Instr.loadAt, Instr.sureAddr, loadVar, run_isAggA hag, cell_eq, h1]
      · exact (fail_run hm).elim
    · rename_i cells off
      obtain ⟨v, hv, rfl⟩ := pur_run hm
      obtain ⟨b, o, us, rfl, h1, h2, h3⟩ := ha.inv_vref
      obtain ⟨u, hu, hR⟩ := h3.get hv
      refine ⟨u, ?_, .clean hR, rfl⟩
      simp [Instr.loadAt, Instr.sureAddr, loadVar, run_isAggA hag, cell_eq, (h2 _ _ hu).1]
    · exact (fail_run hm).elim
  · exact (fail_run hm).elim

theorem store_sound (hr : HR K bs w.heap) {nid : Nat} {t : TypeId} {a v : AV} {a' v' : Value} (ha : RepV K bs w.heap a a') (hv : RepV K bs w.heap v v') {r : Out} (hm : (storeA P t a v).run bs = some r) :
    ∃ K' w', (Instr.storeAt t a' v').run P w = .ok () w' ∧ Goes K bs w K' (appBs bs nid r.2) w' ∧ r.1 = .tup [] := by
  unfold storeA at hm
  split at hm
  · rename_i b off ver vs n hvs hsz
    split at hm
    · rename_i h0
      obtain ⟨hlen, hone⟩ := h0
      obtain ⟨c, i, hb, hm⟩ := info_run hm
      split at hm
      · rename_i h1
        obtain ⟨hver, hw, hl, hcl⟩ := h1
        have := ret_run hm
        subst this
        obtain ⟨x, rfl, _, e⟩ := ha.inv_ref
        obtain rfl := e c i hb hver
        have hc := toCells_rep hv hvs hone
        obtain ⟨K', w', hrun, hg⟩ := goes_put (nid := nid) hr P hb hw (by rw [hlen]; exact hl) hc (oneL_one hc hone) (fun h => by
          rcases hcl with h' | h'
          · rw [h] at h'; cases h'
          · exact h')
        refine ⟨K', w', ?_, hg, rfl⟩
        have hsize : v'.cells.size = n := by rw [← hlen, hc.len]; simp
        simp [Instr.storeAt, Instr.sureAddr, storeVar, run_szOf hsz, hsize, hrun]
      · exact (fail_run hm).elim
    · exact (fail_run hm).elim
  · exact (fail_run hm).elim
end ops
end Go.Proofs.Ytnkeijebkpjdgaa.Ab
