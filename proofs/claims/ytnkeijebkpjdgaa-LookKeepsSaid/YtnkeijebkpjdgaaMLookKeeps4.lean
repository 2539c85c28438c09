import Derived.Test.YtnkeijebkpjdgaaMLookKeeps3
import Derived.Laws.Tables
import Derived.Laws.Strings
import Derived.Laws.IdiomStrings
import Derived.Laws.BytesString
set_option linter.unusedVariables false
set_option linter.unusedSimpArgs false
/- The engine, seventh text: the operations on values are sound. -/
namespace Go.Proofs.Ytnkeijebkpjdgaa.Ab
open Go

section ops
variable {P : Program} {K : KS} {bs : List AB} {w : World}

theorem toCells_rep' {a : AV} {v : Value} {hp : Array Obj} (h : RepV K bs hp a v) {c : List AV} (hc : a.toCells = some c) : RepVL K bs hp c v.cells.toList := by
  unfold AV.toCells at hc
  split at hc
  · cases hc
    obtain ⟨vs, rfl, h1⟩ := h.inv_agg
    exact h1
  · cases hc
  · cases hc
  · rename_i h1 h2 h3
    cases hc
    have hone : v.oneCell' = true := by
      refine oneA_one h ?_
      unfold oneA
      split
      · rename_i c; exact absurd rfl (h1 c)
      · rename_i c; exact absurd rfl (h2 c)
      · exact absurd rfl h3
      · rfl
    have hv : v.cells = #[v] := by cases v <;> first | rfl | (simp [Value.oneCell'] at hone)
    rw [hv]
    exact .cons h .nil
theorem pick_sound {t : Bool} {a b : AV} {a' b' : Value} {hp : Array Obj} (ha : RepV K bs hp a a') (hb : RepV K bs hp b b') : RepV K bs hp (pickA t a b) (if t then a' else b') := by
  unfold pickA
  split
  · have := ha.inv_bool; subst this
    have := hb.inv_bool; subst this
    cases t <;> exact .clean (.bool _)
  · cases t
    · simpa using hb
    · simpa using ha
theorem foldl_splice (off : Nat) : ∀ (vs : List Value) (k : Nat) (cells : Array Value), off + k + vs.length ≤ cells.size →
    (vs.zipIdx k).foldl (fun cs (x : Value × Nat) => cs.setIfInBounds (off + x.2) x.1) cells = (spliceV cells.toList (off + k) vs).toArray
  | [], k, cells, _ => by simp [spliceV]
  | v :: vs, k, cells, h => by
    simp only [List.zipIdx_cons, List.foldl_cons]
    have hl : (cells.setIfInBounds (off + k) v).size = cells.size := by simp
    simp only [List.length_cons] at h
    rw [foldl_splice off vs (k + 1) _ (by rw [hl]; omega)]
    apply Array.ext'
    simp only [Array.toList_setIfInBounds]
    apply List.ext_getElem?
    intro j
    have e1 := spliceV_get (cells.toList.set (off + k) v) (off + (k + 1)) vs (by simp; omega) j
    have e3 := spliceV_get cells.toList (off + k) (v :: vs) (by simp; omega) j
    simp only [List.length_cons] at e3
    rw [e1, e3]
    rw [List.getElem?_set]
    by_cases k1 : j < off + k
    · rw [if_pos (by omega), if_neg (by omega), if_pos k1]
    · by_cases k2 : j = off + k
      · subst k2
        rw [if_pos (by omega), if_pos rfl, if_pos (by simp; omega), if_neg (by omega), if_pos (by omega)]
        simp
      · rw [if_neg (by omega), if_neg k1]
        by_cases k3 : j < off + (k + 1) + vs.length
        · rw [if_pos k3, if_pos (by omega), show j - (off + k) = (j - (off + (k + 1))) + 1 by omega, List.getElem?_cons_succ]
        · rw [if_neg k3, if_neg (by omega), if_neg (by omega)]
theorem fill_sound {hp : Array Obj} {place : Nat → Option (Nat × Nat)} : ∀ (ps : List (Nat × AV)) (qs : List (Nat × Value)) (c c' : List AV) (us : List Value), fillA place c ps = some c' → RepVL K bs hp c us →
    ps.map (·.1) = qs.map (·.1) → RepVL K bs hp (ps.map (·.2)) (qs.map (·.2)) → ∃ us', Instr.fill place us.toArray qs = some us'.toArray ∧ RepVL K bs hp c' us'
  | [], qs, c, c', us, h, hr, hk, _ => by
    cases qs with
    | nil => simp [fillA] at h; subst h; exact ⟨us, rfl, hr⟩
    | cons q qs => simp at hk
  | p :: ps, [], c, c', us, h, hr, hk, _ => by simp at hk
  | (i, v) :: ps, (j, u) :: qs, c, c', us, h, hr, hk, hv => by
    simp only [List.map_cons, List.cons.injEq] at hk
    obtain ⟨rfl, hk⟩ := hk
    simp only [List.map_cons] at hv
    cases hv with
    | cons h0 hv =>
      simp only [fillA] at h
      cases hp' : place i with
      | none => simp [hp'] at h
      | some x =>
        obtain ⟨off, n⟩ := x
        cases hc : v.toCells with
        | none => simp [hp', hc] at h
        | some vs =>
          simp only [hp', hc] at h
          split at h
          · rename_i hcond
            have hu := toCells_rep' h0 hc
            have hlen : u.cells.size = vs.length := by rw [hu.len]; simp
            have hul := hr.len
            have hsp := splice_rep hr hu (show off + vs.length ≤ c.length by omega)
            obtain ⟨us', h1, h2⟩ := fill_sound ps qs _ c' _ h hsp hk hv
            refine ⟨us', ?_, h2⟩
            simp only [Instr.fill, hp']
            rw [if_neg (by simp; omega)]
            rw [← h1]
            congr 1
            rw [← Array.foldl_toList, Array.toList_zipIdx]
            have := foldl_splice off u.cells.toList 0 us.toArray (by simp; omega)
            simpa using this
          · cases h
theorem map_fst {f : Operand → AV} {g : Operand → Value} (l : List (Nat × Operand)) : (l.map fun p => (p.1, f p.2)).map (·.1) = (l.map fun p => (p.1, g p.2)).map (·.1) := by simp
theorem map_snd {hp : Array Obj} {f : Operand → AV} {g : Operand → Value} (l : List (Nat × Operand)) (h : ∀ x, RepV K bs hp (f x) (g x)) : RepVL K bs hp ((l.map fun p => (p.1, f p.2)).map (·.2)) ((l.map fun p => (p.1, g p.2)).map (·.2)) := by
  rw [List.map_map, List.map_map]
  exact RepVL.map fun x _ => h x.2
theorem zero_info {t : TypeId} {z : List AV} (h : zeroCellsA P t = some z) : ∃ i v, P.info? t = some i ∧ i.zero = some v ∧ (∀ (K : KS) (bs : List AB) (hp : Array Obj), RepVL K bs hp z v.cells.toList) := by
  unfold zeroCellsA zeroA at h
  cases hi : P.info? t with
  | none => simp [hi] at h
  | some i =>
    cases hz : i.zero with
    | none => simp [hi, hz] at h
    | some v =>
      simp [hi, hz] at h
      exact ⟨i, v, rfl, hz, fun K bs hp => toCells_rep' (K := K) (bs := bs) (.clean (ofValue_rep K.I hp v)) h⟩
theorem run_zero {t : TypeId} {i : TypeInfo} {v : Value} (h : P.info? t = some i) (hz : i.zero = some v) : (zeroValue t).run P w = .ok v w := by
  simp [zeroValue, typeInfo, h, hz]

theorem obj_cells {hp : Array Obj} {c : List AV} {us : List Value} (h : RepVL K bs hp c us) (ho : ∀ (j : Nat) (u : Value), us[j]? = some u → u.oneCell' = true) (e : TypeId) (i : BI) (hc : i.cl = true → cleanL c = true) :
    ObjR K bs hp us.length (.cells c i) (.cells us.toArray e (0, 0)) :=
  ⟨us.toArray, e, 0, 0, us, rfl, .inl rfl, by simp, fun j u hu => ⟨by simpa using hu, ho j u hu⟩, h, hc⟩
/-- A new block of cells, behind a reference. -/
theorem good_box (hr : HR K bs w.heap) {nid : Nat} (hn : nid = bs.length ∨ bs[nid]? = some .void) {c : List AV} {us : List Value} (h : RepVL K bs w.heap c us) (ho : oneL c = true) (e : TypeId) (w2 : World) (hw2 : w2 = { w with heap := w.heap.push (.cells us.toArray e) }) :
    ValGood K bs w nid (.ref nid 0 0, .new (.cells c ⟨false, 0, false, true⟩)) (.ok (.pointer (some ⟨w.heap.size, 0, none⟩)) w2) := by
  subst hw2
  obtain ⟨K', hg, h1, h2⟩ := goes_new hr hn (x := .cells c ⟨false, 0, false, true⟩) (k := us.length) rfl (obj_cells h (oneL_one h ho) e ⟨false, 0, false, true⟩ (by simp))
  exact ⟨_, _, K', rfl, hg, .ref ⟨_, (app_new_get bs nid _ hn).1, rfl, fun _ => Nat.zero_le _⟩ fun c' i' hc _ => h1.symm⟩
theorem good_row (hr : HR K bs w.heap) {nid : Nat} (hn : nid = bs.length ∨ bs[nid]? = some .void) {c : List AV} {o : Obj} {k n cp : Nat} {i : BI} {cap : Option Nat} {ver : Nat} (hw : i.wr = true) (ho : ObjR K bs w.heap k (.cells c i) o) (hver : ver = verA i c.length)
    (hcp : n ≤ cp) (hcap : ∀ m, cap = some m → cp = m) (hopen : cap = none → cp * i.sz ≤ k ∧ c.length ≤ cp * i.sz) (w2 : World) (d : Nat) (hw2 : w2 = { w with heap := w.heap.push o, drawn := d }) :
    ValGood K bs w nid (.rsl nid 0 n cap ver, .new (.cells c i)) (.ok (.slice (some ⟨w.heap.size, 0, none⟩) n cp) w2) := by
  subst hw2
  obtain ⟨K', hg, h1, h2⟩ := goes_new hr hn (x := .cells c i) (k := k) hw ho
  have hget := (app_new_get bs nid (.cells c i) hn).1
  refine ⟨_, _, K', rfl, ⟨hg.tr, hg.hr, hg.os, hg.tape, hg.output⟩, .rsl ⟨_, hget, rfl, fun _ => by rw [hver]; exact Nat.le_refl _⟩ hcp hcap (.inr rfl) fun c' i' hc hv => ?_⟩
  rw [hget] at hc
  cases hc
  rw [h1, h2]
  exact ⟨rfl, fun hh => by have := hopen hh; omega⟩

theorem alloc_sound (hr : HR K bs w.heap) {nid : Nat} (hn : nid = bs.length ∨ bs[nid]? = some .void) {e : TypeId} {z : List AV} (hz : zeroCellsA P e = some z) (ho : oneL z = true) :
    ValGood K bs w nid (.ref nid 0 0, .new (.cells z ⟨false, 0, false, true⟩)) ((Instr.alloc e true (.tuple #[])).run P w) := by
  obtain ⟨i, v, hi, hv, hrep⟩ := zero_info hz
  have hrun : (Instr.alloc e true (.tuple #[])).run P w = .ok (.pointer (some ⟨w.heap.size, 0, none⟩)) { w with heap := w.heap.push (.cells v.cells e) } := by
    simp [Instr.alloc, run_zero hi hv, newVar, newRow]
  rw [hrun]
  exact good_box hr hn (hrep K bs w.heap) ho e _ (by simp)
theorem box_sound (hr : HR K bs w.heap) {nid : Nat} (hn : nid = bs.length ∨ bs[nid]? = some .void) {e : TypeId} {a : AV} {v : Value} (ha : RepV K bs w.heap a v) {c : List AV} (hc : a.toCells = some c) (ho : oneL c = true) :
    ValGood K bs w nid (.ref nid 0 0, .new (.cells c ⟨false, 0, false, true⟩)) ((Instr.box e v).run P w) := by
  have hrun : (Instr.box e v).run P w = .ok (.pointer (some ⟨w.heap.size, 0, none⟩)) { w with heap := w.heap.push (.cells v.cells e) } := by
    simp [Instr.box, newVar, newRow]
  rw [hrun]
  exact good_box hr hn (toCells_rep' ha hc) ho e _ (by simp)
theorem build_sound (hr : HR K bs w.heap) {nid : Nat} {t : TypeId} {parts : Array (Nat × Operand)} {ρ : Operand → AV} {ρ' : Operand → Value} (hρ : ∀ x, RepV K bs w.heap (ρ x) (ρ' x)) {flat : TypeId → Option (List Nat)} {r : Out}
    (hm : (evOp P flat nid (.build t parts) ρ).run bs = some r) : ValGood K bs w nid r ((Instr.build t (parts.map fun (i, x) => (i, ρ' x))).run P w) := by
  simp only [evOp] at hm
  cases hz : zeroCellsA P t with
  | none => simp only [hz] at hm; exact (fail_run hm).elim
  | some z =>
    obtain ⟨it, v, hi, hv, hrep⟩ := zero_info hz
    cases hu : P.underlying t with
    | none => simp only [hz, hu] at hm; exact (fail_run hm).elim
    | some d =>
      have hparts : (parts.map fun (x : Nat × Operand) => (x.1, ρ' x.2)).toList = parts.toList.map fun p => (p.1, ρ' p.2) := by simp
      cases d with
      | struct fs =>
        simp only [hz, hu] at hm
        cases hpl : fs.toList.mapM (fun f => (P.info? f.type).map fun i => (f.offset, i.size)) with
        | none => simp only [hpl] at hm; exact (fail_run hm).elim
        | some places =>
          simp only [hpl] at hm
          obtain ⟨a, ha, rfl⟩ := pur_run hm
          cases hf : fillA (places.toArray[·]?) z (parts.toList.map fun p => (p.1, ρ p.2)) with
          | none => simp only [hf, Option.map_none] at ha; cases ha
          | some c =>
            simp only [hf, Option.map_some, Option.some.injEq] at ha
            subst ha
            obtain ⟨us', h1, h2⟩ := fill_sound _ _ z c _ hf (hrep K bs w.heap) (map_fst (g := ρ') parts.toList) (map_snd parts.toList hρ)
            have hb : P.built t (parts.map fun (x : Nat × Operand) => (x.1, ρ' x.2)).toList = some us'.toArray := by
              unfold Program.built
              simp only [hi, hu, hv, hpl]
              rw [hparts]
              simpa using h1
            rw [run_build w t _ _ hb]
            exact good_none hr (.agg h2)
      | array m e =>
        simp only [hz, hu] at hm
        cases hs : szOf P e with
        | none => simp only [hs] at hm; exact (fail_run hm).elim
        | some n =>
          simp only [hs] at hm
          obtain ⟨ie, hie, hn⟩ := szOf_info hs
          obtain ⟨a, ha, rfl⟩ := pur_run hm
          cases hf : fillA (fun i => some (i * n, n)) z (parts.toList.map fun p => (p.1, ρ p.2)) with
          | none => simp only [hf, Option.map_none] at ha; cases ha
          | some c =>
            simp only [hf, Option.map_some, Option.some.injEq] at ha
            subst ha
            obtain ⟨us', h1, h2⟩ := fill_sound _ _ z c _ hf (hrep K bs w.heap) (map_fst (g := ρ') parts.toList) (map_snd parts.toList hρ)
            have hb : P.built t (parts.map fun (x : Nat × Operand) => (x.1, ρ' x.2)).toList = some us'.toArray := by
              unfold Program.built
              simp only [hi, hu, hv, hie, hn]
              rw [hparts]
              simpa using h1
            rw [run_build w t _ _ hb]
            exact good_none hr (.agg h2)
      | _ => simp only [hz, hu] at hm; exact (fail_run hm).elim
theorem repCells_rep {hp : Array Obj} (n : Nat) {z : List AV} {us : List Value} (h : RepVL K bs hp z us) : RepVL K bs hp (repCells n z) (List.replicate n us).flatten := by
  have gen : RepVL K bs hp (List.replicate n z).flatten (List.replicate n us).flatten := by
    induction n with
    | zero => exact .nil
    | succ n ih => simp only [List.replicate_succ, List.flatten_cons]; exact h.app ih
  unfold repCells
  split
  · cases h with
    | cons h0 h =>
      cases h
      have e : ∀ (x : Value), (List.replicate n [x]).flatten = List.replicate n x := by
        intro x
        induction n with
        | zero => rfl
        | succ n ih => simp [List.replicate_succ]
      rw [e]
      exact RepVL.rep n h0
  · exact gen
theorem flatten_get {α : Type} (us : List α) (hpos : 0 < us.length) : ∀ (n j : Nat), (List.replicate n us).flatten[j]? = if j < n * us.length then us[j % us.length]? else none
  | 0, j => by simp
  | n + 1, j => by
    simp only [List.replicate_succ, List.flatten_cons]
    by_cases h : j < us.length
    · rw [List.getElem?_append_left h, if_pos (by rw [Nat.add_mul]; omega), Nat.mod_eq_of_lt h]
    · rw [List.getElem?_append_right (by omega), flatten_get us hpos n]
      have e : (j - us.length) % us.length = j % us.length := by
        conv => rhs; rw [show j = (j - us.length) + us.length by omega, Nat.add_mod_right]
      rw [e]
      by_cases h2 : j < (n + 1) * us.length
      · rw [if_pos h2, if_pos (by rw [Nat.add_mul] at h2; omega)]
      · rw [if_neg h2, if_neg (by rw [Nat.add_mul] at h2; omega)]
theorem flatten_len {α : Type} (us : List α) (n : Nat) : (List.replicate n us).flatten.length = n * us.length := by
  induction n with
  | zero => simp
  | succ n ih => simp [List.replicate_succ, Nat.add_mul, Nat.add_comm]
/-- The row of zero cells, as the machine lays it. -/
theorem zeroRow_eq (us : List Value) (n : Nat) (hpos : 0 < us.length) : (Array.range (n * us.length)).map (fun i => us.toArray[i % us.toArray.size]!) = (List.replicate n us).flatten.toArray := by
  apply Array.ext_getElem?
  intro j
  rw [Array.getElem?_map, Array.getElem?_range, List.getElem?_toArray, flatten_get us hpos]
  by_cases h : j < n * us.length
  · rw [if_pos h, if_pos h]
    have : j % us.length < us.length := Nat.mod_lt _ hpos
    simp [this]
  · rw [if_neg h, if_neg h]
    rfl
theorem oneL_rep (n : Nat) {z : List AV} (h : oneL z = true) : oneL (repCells n z) = true := by
  have app : ∀ (x y : List AV), oneL x = true → oneL y = true → oneL (x ++ y) = true := by
    intro x y hx hy
    induction x with
    | nil => exact hy
    | cons a x ih => simp only [oneL, Bool.and_eq_true, List.cons_append] at hx ⊢; exact ⟨hx.1, ih hx.2⟩
  unfold repCells
  split
  · rename_i v
    simp [oneL] at h
    induction n with
    | zero => rfl
    | succ n ih => simp [List.replicate_succ, oneL, h, ih]
  · induction n with
    | zero => rfl
    | succ n ih => simp only [List.replicate_succ, List.flatten_cons]; exact app _ _ h ih
theorem cleanL_app {x y : List AV} : cleanL (x ++ y) = (cleanL x && cleanL y) := by
  induction x with
  | nil => rfl
  | cons a x ih => simp [cleanL, ih, Bool.and_assoc]
theorem cleanL_rep (n : Nat) {z : List AV} (h : cleanL z = true) : cleanL (repCells n z) = true := by
  unfold repCells
  split
  · rename_i v
    simp [cleanL] at h
    induction n with
    | zero => rfl
    | succ n ih => simp [List.replicate_succ, cleanL, h, ih]
  · induction n with
    | zero => rfl
    | succ n ih => simp [List.replicate_succ, cleanL_app, h, ih]
theorem repCells_len (n : Nat) (z : List AV) : (repCells n z).length = n * z.length := by
  unfold repCells
  split
  · simp
  · exact flatten_len _ _
theorem buildSlice_sound (hr : HR K bs w.heap) {nid : Nat} (hn : nid = bs.length ∨ bs[nid]? = some .void) {t : TypeId} {len : Nat} {parts : Array (Nat × Operand)} {ρ : Operand → AV} {ρ' : Operand → Value} (hρ : ∀ x, RepV K bs w.heap (ρ x) (ρ' x)) {flat : TypeId → Option (List Nat)} {r : Out}
    (hm : (evOp P flat nid (.buildSlice t len parts) ρ).run bs = some r) : ValGood K bs w nid r ((Instr.buildSlice t len (parts.map fun (i, x) => (i, ρ' x))).run P w) := by
  simp only [evOp] at hm
  cases hu : P.underlying t with
  | none => simp only [hu] at hm; exact (fail_run hm).elim
  | some d =>
    cases d with
    | slice e =>
      simp only [hu] at hm
      cases hs : szOf P e with
      | none => simp only [hs] at hm; exact (fail_run hm).elim
      | some n =>
        cases hz : zeroCellsA P e with
        | none => simp only [hs, hz] at hm; exact (fail_run hm).elim
        | some z =>
          simp only [hs, hz] at hm
          split at hm
          · rename_i hc
            obtain ⟨h24, hzl⟩ := hc
            cases hf : fillA (fun i => some (i * n, n)) (repCells len z) (parts.toList.map fun p => (p.1, ρ p.2)) with
            | none => simp only [hf] at hm; exact (fail_run hm).elim
            | some c =>
              simp only [hf] at hm
              split at hm
              · rename_i hone
                have := ret_run hm
                subst this
                obtain ⟨it, v, hi, hv, hrep⟩ := zero_info hz
                obtain ⟨ie, hie, hse⟩ := szOf_info hs
                rw [hi] at hie; cases hie
                have hzr := hrep K bs w.heap
                have hvl : v.cells.toList.length = n := by rw [← hzr.len, hzl]
                obtain ⟨us', h1, h2⟩ := fill_sound _ _ _ c _ hf (repCells_rep len hzr) (map_fst (g := ρ') parts.toList) (map_snd parts.toList hρ)
                have hlen2 : c.length = len * n := by
                  have gen : ∀ (ps : List (Nat × AV)) (a b : List AV), fillA (fun i => some (i * n, n)) a ps = some b → b.length = a.length := by
                    intro ps
                    induction ps with
                    | nil => intro a b h; simp [fillA] at h; rw [h]
                    | cons p ps ih =>
                      intro a b h
                      obtain ⟨i, v⟩ := p
                      simp only [fillA] at h
                      split at h
                      · split at h
                        · rename_i o m vs e1 e2 hcc
                          rw [ih _ _ h, splice_len]
                        · cases h
                      · cases h
                  rw [gen _ _ _ hf, repCells_len, hzl]
                have hrun : (Instr.buildSlice t len (parts.map fun (x : Nat × Operand) => (x.1, ρ' x.2))).run P w = .ok (.slice (some ⟨w.heap.size, 0, none⟩) len len) { w with heap := w.heap.push (.cells us'.toArray e) } := by
                  have hparts : (parts.map fun (x : Nat × Operand) => (x.1, ρ' x.2)).toList = parts.toList.map fun p => (p.1, ρ' p.2) := by simp
                  unfold Instr.buildSlice
                  by_cases h0 : len * n = 0
                  · have hnil : (List.replicate len v.cells.toList).flatten = [] := by
                      apply List.eq_nil_of_length_eq_zero
                      rw [flatten_len, hvl]; exact h0
                    rw [hnil] at h1
                    have h1' : Instr.fill (fun i => some (i * n, n)) #[] (parts.toList.map fun p => (p.1, ρ' p.2)) = some us'.toArray := h1
                    have har : ∀ f : Nat → Value, (Array.range (len * n)).map f = #[] := by
                      intro f; rw [h0]; exact Array.eq_empty_of_size_eq_zero (by simp)
                    simp only [Sem.run_bind, run_undA hu, Result.andThen_ok, run_szOf hs]
                    rw [if_neg (by omega)]
                    simp only [h0, if_true] at har ⊢
                    simp only [Sem.run_bind, Sem.run_pure, Result.andThen_ok, har, hparts, h1']
                    simp [newRow]
                  · have hpos : 0 < v.cells.toList.length := by
                      rw [hvl]
                      rcases Nat.eq_zero_or_pos n with h | h
                      · exfalso; apply h0; rw [h]; simp
                      · exact h
                    have hrow := zeroRow_eq v.cells.toList len hpos
                    rw [hvl] at hrow
                    have hrow' : (Array.range (len * n)).map (fun i => v.cells[i % v.cells.size]!) = (List.replicate len v.cells.toList).flatten.toArray := by simpa using hrow
                    simp only [Sem.run_bind, run_undA hu, Result.andThen_ok, run_szOf hs]
                    rw [if_neg (by omega)]
                    simp only [h0, if_false]
                    simp only [Sem.run_bind, Sem.run_pure, Result.andThen_ok, run_zero hi hv, hrow', hparts, h1]
                    simp [newRow]
                rw [hrun]
                refine good_row hr hn (k := us'.length) rfl (obj_cells h2 (oneL_one h2 hone) e ⟨false, n, false, true⟩ (by simp)) rfl (Nat.le_refl _) (fun m hm => by cases hm; rfl) (fun h => by cases h) _ w.drawn (by simp)
              · exact (fail_run hm).elim
          · exact (fail_run hm).elim
    | _ => simp only [hu] at hm; exact (fail_run hm).elim
end ops
end Go.Proofs.Ytnkeijebkpjdgaa.Ab
/- The engine, eighth text: addresses, parts, slices, conversions, arithmetic. -/
namespace Go.Proofs.Ytnkeijebkpjdgaa.Ab
open Go

/-- What a type's equality says of two values of cells: alike cell by cell. -/
def sameCellV : Value → Value → Option Bool
  | .bool a, .bool b => some (a == b)
  | .int k a, .int k' b => if k = k' then some (a == b) else none
  | .string a, .string b => some (a == b)
  | _, _ => none
def sameCellsV : List Value → List Value → Option Bool
  | [], [] => some true
  | a :: x, b :: y => match sameCellV a b, sameCellsV x y with
    | some s, some t => some (s && t)
    | _, _ => none
  | _, _ => none
/-- Do cells fit kinds? -/
def fitsV : List Nat → List Value → Bool
  | [], [] => true
  | k :: ks, .int .. :: r => Nat.beq k 0 && fitsV ks r
  | k :: ks, .bool _ :: r => Nat.beq k 1 && fitsV ks r
  | k :: ks, .string _ :: r => Nat.beq k 2 && fitsV ks r
  | _, _ => false
def FlatTy (P : Program) (t : TypeId) (ks : List Nat) : Prop :=
  ∀ (xs ys : List Value) (s : Bool) (w : World) (op : BinOp) (x y : Operand), fitsV ks xs = true → sameCellsV xs ys = some s → (op = .eql ∨ op = .neq) →
    (eqGuard op t x y (.agg xs.toArray) (.agg ys.toArray)).run P w = .ok () w ∧ (Op.equal t (.agg xs.toArray) (.agg ys.toArray)).run P w = .ok s w

section ops
variable {P : Program} {K : KS} {bs : List AB} {w : World}

theorem addr_sound {hp : Array Obj} {a a2 : AV} {v : Value} {off : Nat} (h : RepV K bs hp a v) (ha : addrA a off = some a2) :
    ∃ x : Addr, v = .pointer (some x) ∧ RepV K bs hp a2 (.pointer (some (x.add off))) := by
  unfold addrA at ha
  split at ha
  · rename_i b o ver
    cases ha
    obtain ⟨x, rfl, h1, h2⟩ := h.inv_ref
    refine ⟨_, rfl, ?_⟩
    rw [add_addr]
    exact .ref h1 h2
  · rename_i c o
    cases ha
    obtain ⟨b, o2, us, rfl, h1, h2, h3⟩ := h.inv_vref
    refine ⟨_, rfl, ?_⟩
    rw [add_addr, Nat.add_assoc]
    exact .clean (.vref h1 h2 h3)
  · cases ha
theorem fieldAddr_sound {hp : Array Obj} {s : TypeId} {a r : AV} {v : Value} {f : Nat} (h : RepV K bs hp a v) (hf : fieldAddrA P s a f = some r) :
    ∃ v', (Instr.fieldAt s v f).run P w = .ok v' w ∧ RepV K bs hp r v' := by
  unfold fieldAddrA at hf
  split at hf
  · rename_i fs hu
    split at hf
    · rename_i x hx
      split at hf
      · rename_i n hn
        split at hf
        · cases hf
        · rename_i hn0
          obtain ⟨y, rfl, hR⟩ := addr_sound h hf
          refine ⟨_, ?_, hR⟩
          simp [Instr.fieldAt, run_undA hu, hx, Instr.sureAddr, fieldPlace, run_szOf hn, hn0]
      · cases hf
    · cases hf
  · cases hf
theorem part_sound {hp : Array Obj} {t : TypeId} {cs : List AV} {vs : List Value} {off : Nat} {a : AV} (h : RepVL K bs hp cs vs) (ha : partA P t cs off = some a) :
    ∃ v', (part t vs.toArray off).run P w = .ok v' w ∧ RepV K bs hp a v' := by
  unfold partA at ha
  have hl := h.len
  split at ha
  · rename_i n hag hsz
    split at ha
    · cases ha
      refine ⟨.agg ((vs.drop off).take n).toArray, ?_, .agg ((h.drop _).take _)⟩
      simp only [part, Sem.run_bind, run_isAggA hag, Result.andThen_ok, if_true, run_szOf hsz, Sem.run_pure]
      congr 2
      rw [List.extract_toArray]
      simp [List.extract]
    · cases ha
  · rename_i n hag hsz
    obtain ⟨u, hu, hR⟩ := h.get ha
    refine ⟨u, ?_, hR⟩
    simp [part, run_isAggA hag, hu]
  · cases ha
theorem field_sound {hp : Array Obj} {s : TypeId} {a r : AV} {v : Value} {f : Nat} (h : RepV K bs hp a v) (hf : fieldA P s a f = some r) :
    ∃ v', (Instr.field s v f).run P w = .ok v' w ∧ RepV K bs hp r v' := by
  unfold fieldA at hf
  split at hf
  · rename_i fs cs hu
    split at hf
    · rename_i y hy
      obtain ⟨vs, rfl, h1⟩ := h.inv_agg
      obtain ⟨v', hr, hR⟩ := part_sound (w := w) h1 hf
      exact ⟨v', by simp [Instr.field, run_undA hu, hy, asAgg, hr], hR⟩
    · cases hf
  · cases hf
theorem indexAddr_sound {hp : Array Obj} {t : TypeId} {a ix r : AV} {v i' : Value} (h : RepV K bs hp a v) (hi : RepV K bs hp ix i') (hf : indexAddrA P t a ix = some r) :
    ∃ v', (Instr.indexAt t v i').run P w = .ok v' w ∧ RepV K bs hp r v' := by
  unfold indexAddrA at hf
  split at hf
  · rename_i k i len e hu
    have := hi.inv_int; subst this
    split at hf
    · rename_i n hn
      split at hf
      · rename_i hc
        obtain ⟨y, rfl, hR⟩ := addr_sound h hf
        refine ⟨_, ?_, hR⟩
        simp [Instr.indexAt, asIntOf, run_undA hu, Instr.sureAddr, run_szOf hn, hc]
      · cases hf
    · cases hf
  · rename_i k i e hu
    have := hi.inv_int; subst this
    split at hf
    · rename_i n hn
      split at hf
      · rename_i cells m tight
        split at hf
        · rename_i hc
          cases hf
          obtain ⟨b, o, sp, cap, us, rfl, h1, h2, h3, h4, h5, h6⟩ := h.inv_sl
          obtain rfl : sp = none := by
            rcases h6 with h6 | h6
            · exact h6
            · omega
          refine ⟨.pointer (some ⟨b, o + i.toNat * n, none⟩), ?_, ?_⟩
          · simp [Instr.indexAt, asIntOf, run_undA hu, run_szOf hn, hc, add_addr]
          · exact .clean (.vref h3 h4 h5)
        · cases hf
      · rename_i b off m cap ver
        split at hf
        · rename_i hc
          cases hf
          obtain ⟨x, o, cp, rfl, h1, h2, h3, h4, h5⟩ := h.inv_rsl
          have ho : o = off := by
            rcases h4 with h4 | h4
            · omega
            · exact h4
          subst ho
          refine ⟨.pointer (some ⟨x, o + i.toNat * n, none⟩), ?_, .ref h1 fun c i hc hv => (h5 c i hc hv).1⟩
          simp [Instr.indexAt, asIntOf, run_undA hu, run_szOf hn, hc, add_addr]
        · cases hf
      · cases hf
    · cases hf
  · cases hf
theorem bytes_get {s : ByteArray} {l : List UInt8} (h : s.data.toList = l) (i : Nat) : s[i]? = l[i]? := by
  subst h
  rw [Array.getElem?_toList]
  cases h : s.data[i]? with
  | none =>
    rw [ByteArray.getElem?_ge' s i (by rw [Array.getElem?_eq_none_iff] at h; exact Nat.not_lt.2 h)]
  | some x =>
    obtain ⟨hlt, rfl⟩ := Array.getElem?_eq_some_iff.1 h
    rw [ByteArray.getElem?_lt' s i hlt]
    rfl
theorem bytes_size {s : ByteArray} {l : List UInt8} (h : s.data.toList = l) : s.size = l.length := by
  subst h; exact (Array.length_toList).symm
theorem index_sound {hp : Array Obj} {t : TypeId} {a ix r : AV} {v i' : Value} (h : RepV K bs hp a v) (hi : RepV K bs hp ix i') (hf : indexA P t a ix = some r) :
    ∃ v', (Instr.index t v i').run P w = .ok v' w ∧ RepV K bs hp r v' := by
  unfold indexA at hf
  split at hf
  · rename_i k i len e cs hu
    have := hi.inv_int; subst this
    split at hf
    · rename_i n hn
      split at hf
      · rename_i hc
        obtain ⟨vs, rfl, h1⟩ := h.inv_agg
        obtain ⟨v', hr, hR⟩ := part_sound (w := w) h1 hf
        exact ⟨v', by simp [Instr.index, asIntOf, run_undA hu, run_szOf hn, hc, hr], hR⟩
      · cases hf
    · cases hf
  · rename_i k i s hu
    have := hi.inv_int; subst this
    obtain ⟨t', rfl, ht⟩ := h.inv_str
    split at hf
    · rename_i h0
      split at hf
      · rename_i b hb
        cases hf
        refine ⟨.int .u8 b.toNat, ?_, .clean (.int _ _)⟩
        simp [Instr.index, asIntOf, run_undA hu, h0, bytes_get ht, hb]
      · cases hf
    · cases hf
  · cases hf

theorem bound_sound {hp : Array Obj} {a : AV} {v : Value} {m n : Nat} {code : BoundsCode} (h : RepV K bs hp a v) (hb : boundA a m = some n) : (Instr.sliceBound v m code).run P w = .ok n w ∧ n ≤ m ∧ ∃ k i, a = .int k i ∧ i.toNat = n := by
  unfold boundA at hb
  split at hb
  · rename_i k i
    split at hb
    · rename_i hc
      cases hb
      have := h.inv_int; subst this
      exact ⟨by simp [Instr.sliceBound, asIntOf, hc], by omega, k, i, rfl, rfl⟩
    · cases hb
  · cases hb
/-- Optional operands. -/
def RepO (K : KS) (bs : List AB) (hp : Array Obj) : Option AV → Option Value → Prop
  | none, none => True
  | some a, some v => RepV K bs hp a v
  | _, _ => False
theorem bounds_sound {hp : Array Obj} {isS : Bool} {len cap : Nat} {lo hi mx : Option AV} {lo' hi' mx' : Option Value} (h1 : RepO K bs hp lo lo') (h2 : RepO K bs hp hi hi') (h3 : RepO K bs hp mx mx') {l h m : Nat}
    (hb : boundsA len cap lo hi mx = some (l, h, m)) : (Instr.sliceBounds isS len cap lo' hi' mx').run P w = .ok (l, h, m) w ∧ l ≤ h ∧ (hi.isSome = true → h ≤ m) ∧ m ≤ cap ∧ (mx = none → m = cap) ∧ (hi = none → h = len) ∧ (∀ v, mx = some v → ∃ k i, v = .int k i ∧ i.toNat = m) := by
  unfold boundsA at hb
  cases mx with
  | none =>
    cases mx' with
    | some _ => simp [RepO] at h3
    | none =>
      simp only at hb
      cases hi with
      | none =>
        cases hi' with
        | some _ => simp [RepO] at h2
        | none =>
          simp only [Option.isNone_none, if_true] at hb
          cases lo with
          | none =>
            cases lo' with
            | some _ => simp [RepO] at h1
            | none =>
              simp only [Option.some.injEq, Prod.mk.injEq] at hb
              obtain ⟨rfl, rfl, rfl⟩ := hb
              exact ⟨by simp [Instr.sliceBounds], by omega, by simp, Nat.le_refl _, fun _ => rfl, fun _ => rfl, fun v hv => by cases hv⟩
          | some a =>
            cases lo' with
            | none => simp [RepO] at h1
            | some v =>
              simp only at hb
              cases hb1 : boundA a len with
              | none => simp [hb1] at hb
              | some l1 =>
                simp only [hb1, Option.some.injEq, Prod.mk.injEq] at hb
                obtain ⟨rfl, rfl, rfl⟩ := hb
                obtain ⟨r1, r2, _⟩ := bound_sound (P := P) (w := w) (code := .sliceB) h1 hb1
                exact ⟨by simp [Instr.sliceBounds, r1], by omega, by simp, Nat.le_refl _, fun _ => rfl, fun _ => rfl, fun v hv => by cases hv⟩
      | some b =>
        cases hi' with
        | none => simp [RepO] at h2
        | some vb =>
          simp only at hb
          cases hb2 : boundA b cap with
          | none => simp [hb2] at hb
          | some h0 =>
            simp only [hb2] at hb
            obtain ⟨r1, r2, _⟩ := bound_sound (P := P) (w := w) (code := if isS then BoundsCode.sliceAcap else .sliceAlen) h2 hb2
            cases lo with
            | none =>
              cases lo' with
              | some _ => simp [RepO] at h1
              | none =>
                simp only [Option.some.injEq, Prod.mk.injEq] at hb
                obtain ⟨rfl, rfl, rfl⟩ := hb
                exact ⟨by simp [Instr.sliceBounds, r1], by omega, fun _ => r2, Nat.le_refl _, fun _ => rfl, fun e => (by cases e), fun v hv => by cases hv⟩
            | some a =>
              cases lo' with
              | none => simp [RepO] at h1
              | some v =>
                simp only at hb
                cases hb1 : boundA a h0 with
                | none => simp [hb1] at hb
                | some l1 =>
                  simp only [hb1, Option.some.injEq, Prod.mk.injEq] at hb
                  obtain ⟨rfl, rfl, rfl⟩ := hb
                  obtain ⟨r3, r4, _⟩ := bound_sound (P := P) (w := w) (code := .sliceB) h1 hb1
                  exact ⟨by simp [Instr.sliceBounds, r1, r3], by omega, fun _ => r2, Nat.le_refl _, fun _ => rfl, fun e => (by cases e), fun v hv => by cases hv⟩
  | some c =>
    cases mx' with
    | none => simp [RepO] at h3
    | some vc =>
      simp only at hb
      cases hb3 : boundA c cap with
      | none => simp [hb3] at hb
      | some m0 =>
        simp only [hb3] at hb
        obtain ⟨q1, q2, k, i, rfl, q3⟩ := bound_sound (P := P) (w := w) (code := if isS then BoundsCode.slice3Acap else .slice3Alen) h3 hb3
        cases hi with
        | none => simp at hb
        | some b =>
          cases hi' with
          | none => simp [RepO] at h2
          | some vb =>
            simp only at hb
            cases hb2 : boundA b m0 with
            | none => simp [hb2] at hb
            | some h0 =>
              simp only [hb2] at hb
              obtain ⟨r1, r2, _⟩ := bound_sound (P := P) (w := w) (code := .slice3B) h2 hb2
              cases lo with
              | none =>
                cases lo' with
                | some _ => simp [RepO] at h1
                | none =>
                  simp only [Option.some.injEq, Prod.mk.injEq] at hb
                  obtain ⟨rfl, rfl, rfl⟩ := hb
                  exact ⟨by simp [Instr.sliceBounds, q1, r1], by omega, fun _ => r2, q2, fun e => (by cases e), fun e => (by cases e), fun v hv => by cases hv; exact ⟨k, i, rfl, q3⟩⟩
              | some a =>
                cases lo' with
                | none => simp [RepO] at h1
                | some v =>
                  simp only at hb
                  cases hb1 : boundA a h0 with
                  | none => simp [hb1] at hb
                  | some l1 =>
                    simp only [hb1, Option.some.injEq, Prod.mk.injEq] at hb
                    obtain ⟨rfl, rfl, rfl⟩ := hb
                    obtain ⟨r3, r4, _⟩ := bound_sound (P := P) (w := w) (code := .slice3C) h1 hb1
                    exact ⟨by simp [Instr.sliceBounds, q1, r1, r3], by omega, fun _ => r2, q2, fun e => (by cases e), fun e => (by cases e), fun v hv => by cases hv; exact ⟨k, i, rfl, q3⟩⟩
end ops
end Go.Proofs.Ytnkeijebkpjdgaa.Ab
/- The engine, ninth text: slices, conversions, arithmetic. -/
namespace Go.Proofs.Ytnkeijebkpjdgaa.Ab
open Go

section ops
variable {P : Program} {K : KS} {bs : List AB} {w : World}

theorem slice_cells {hp : Array Obj} {b o : Nat} {us : List Value} (h : ∀ (i : Nat) (u : Value), us[i]? = some u → cellH hp b (o + i) = some u ∧ u.oneCell' = true) (d n : Nat) :
    ∀ (i : Nat) (u : Value), ((us.drop d).take n)[i]? = some u → cellH hp b (o + d + i) = some u ∧ u.oneCell' = true := by
  intro i u hu
  rw [List.getElem?_take] at hu
  split at hu
  · rw [List.getElem?_drop] at hu
    rw [Nat.add_assoc]
    exact h _ _ hu
  · cases hu
theorem bound_mono {a : AV} {m m' n : Nat} (h : boundA a m = some n) (hm : m ≤ m') : boundA a m' = some n := by
  unfold boundA at h ⊢
  split at h
  · split at h
    · rename_i hc
      cases h
      rw [if_pos ⟨hc.1, by omega⟩]
    · cases h
  · cases h
theorem bounds_mono {len cap cap' : Nat} {lo hi mx : Option AV} {l h m : Nat} (hb : boundsA len cap lo hi mx = some (l, h, m)) (hc : cap ≤ cap') :
    boundsA len cap' lo hi mx = some (l, h, if mx.isNone = true then cap' else m) := by
  unfold boundsA at hb ⊢
  cases mx with
  | none =>
    simp only at hb ⊢
    cases hi with
    | none =>
      simp only [Option.isNone_none, if_true] at hb ⊢
      cases lo with
      | none => simp only [Option.some.injEq, Prod.mk.injEq] at hb ⊢; obtain ⟨rfl, rfl, rfl⟩ := hb; exact ⟨rfl, rfl, by simp⟩
      | some a =>
        simp only at hb ⊢
        cases hb1 : boundA a len with
        | none => simp [hb1] at hb
        | some l1 => simp only [hb1, Option.some.injEq, Prod.mk.injEq] at hb ⊢; obtain ⟨rfl, rfl, rfl⟩ := hb; exact ⟨rfl, rfl, by simp⟩
    | some b =>
      simp only at hb ⊢
      cases hb2 : boundA b cap with
      | none => simp [hb2] at hb
      | some h0 =>
        rw [bound_mono hb2 hc]
        simp only [hb2] at hb
        cases lo with
        | none => simp only [Option.some.injEq, Prod.mk.injEq, Option.isNone_none, if_true] at hb ⊢; obtain ⟨rfl, rfl, rfl⟩ := hb; exact ⟨rfl, rfl, by simp⟩
        | some a =>
          simp only at hb ⊢
          cases hb1 : boundA a h0 with
          | none => simp [hb1] at hb
          | some l1 => simp only [hb1, Option.some.injEq, Prod.mk.injEq, Option.isNone_none, if_true] at hb ⊢; obtain ⟨rfl, rfl, rfl⟩ := hb; exact ⟨rfl, rfl, by simp⟩
  | some c =>
    simp only at hb ⊢
    cases hb3 : boundA c cap with
    | none => simp [hb3] at hb
    | some m0 =>
      rw [bound_mono hb3 hc]
      simp only [hb3] at hb
      rw [hb]
      cases hi with
      | none => simp at hb
      | some b =>
        simp only at hb
        cases hb2 : boundA b m0 with
        | none => simp [hb2] at hb
        | some h0 =>
          simp only [hb2] at hb
          cases lo with
          | none => simp only [Option.some.injEq, Prod.mk.injEq] at hb; simp
          | some a =>
            simp only at hb
            cases hb1 : boundA a h0 with
            | none => simp [hb1] at hb
            | some l1 => simp

theorem tight_sound {mx : Option AV} {tight : Bool} {h len cap m' l : Nat} (ht : tightS mx tight h len = true) (hl : l ≤ h) (hcap : tight = true → cap = len) (hm : mx = none → m' = cap) (hv : ∀ v, mx = some v → ∃ k i, v = .int k i ∧ i.toNat = m') : m' - l = h - l := by
  unfold tightS at ht
  split at ht
  · obtain ⟨k, i, e1, e2⟩ := hv _ rfl
    cases e1
    simp at ht
    omega
  · cases ht
  · simp at ht
    have := hcap ht.1
    have := hm rfl
    omega
theorem slice_sound (hr : HR K bs w.heap) {nid : Nat} {t : TypeId} {x : AV} {lo hi mx : Option AV} {x' : Value} {lo' hi' mx' : Option Value} (hx : RepV K bs w.heap x x') (h1 : RepO K bs w.heap lo lo') (h2 : RepO K bs w.heap hi hi') (h3 : RepO K bs w.heap mx mx') {r : Out}
    (hm : (sliceA P t x lo hi mx).run bs = some r) : ValGood K bs w nid r ((Instr.sliceAt t x' lo' hi' mx').run P w) := by
  unfold sliceA at hm
  split at hm
  · rename_i s hu
    obtain ⟨t', rfl, ht⟩ := hx.inv_str
    split at hm
    · exact (fail_run hm).elim
    · split at hm
      · rename_i l h m hb
        have := ret_run hm; subst this
        have hmx : mx' = none := by cases mx' <;> first | rfl | (simp [RepO] at h3)
        subst hmx
        rw [← bytes_size ht] at hb
        obtain ⟨q1, q2, q3, q4, q5, q6, _⟩ := bounds_sound (P := P) (w := w) (isS := false) h1 h2 h3 hb
        have hrun : (Instr.sliceAt t (.string t') lo' hi' none).run P w = .ok (.string (t'.extract l h)) w := by
          simp [Instr.sliceAt, run_undA hu, Instr.slice, q1]
        rw [hrun]
        refine good_none hr (.clean ?_)
        have e : (t'.extract l h).data.toList = (s.take h).drop l := by
          subst ht
          rw [ByteArray.data_extract, Array.toList_extract]
          simp [List.extract, List.drop_take]
        rw [← e]
        exact .str _
      · exact (fail_run hm).elim
  · rename_i e hu
    split at hm
    · rename_i n hn
      have := hx.inv_sl0; subst this
      split at hm
      · rename_i y hb
        obtain ⟨l, h, m⟩ := y
        have := ret_run hm; subst this
        obtain ⟨q1, q2, q3, q4, q5, q6, _⟩ := bounds_sound (P := P) (w := w) (isS := true) h1 h2 h3 hb
        have hl0 : l = 0 ∧ h = 0 ∧ m = 0 := by
          have hh : h = 0 := by
            cases hi with
            | none => exact q6 rfl
            | some _ => have := q3 rfl; omega
          omega
        obtain ⟨rfl, rfl, rfl⟩ := hl0
        have hrun : (Instr.sliceAt t (.slice none 0 0) lo' hi' mx').run P w = .ok (.slice none 0 0) w := by
          simp [Instr.sliceAt, run_undA hu, Instr.slice, q1, run_szOf hn]
        rw [hrun]
        exact good_none hr (.clean .sl0)
      · exact (fail_run hm).elim
    · rename_i n cells len tight hn
      obtain ⟨b, o, sp, cap, us, rfl, g1, g2, g3, g4, g5, g6⟩ := hx.inv_sl
      split at hm
      · rename_i l h m hb
        split at hm
        · rename_i hlen
          have := ret_run hm; subst this
          obtain ⟨_, p2, p3, p4, p5, p6, p7⟩ := bounds_sound (P := P) (w := w) (isS := true) h1 h2 h3 hb
          obtain ⟨m', hm'⟩ : ∃ m', m' = if mx.isNone = true then cap else m := ⟨_, rfl⟩
          obtain ⟨q1, q2, q3, q4, q5, q6, q7⟩ := bounds_sound (P := P) (w := w) (isS := true) h1 h2 h3 (bounds_mono hb g1)
          rw [← hm'] at q1 q3 q4 q5 q7
          have hhl : h ≤ len := by
            cases hi with
            | none => have := p6 rfl; omega
            | some _ => have := p3 rfl; omega
          have hhm : h ≤ m' := by
            cases hi with
            | none =>
              cases mx with
              | none => have := q5 rfl; omega
              | some v =>
                exfalso
                unfold boundsA at hb
                simp only at hb
                split at hb
                · cases hb
                · simp at hb
            | some _ => exact q3 rfl
          have hrun : (Instr.sliceAt t (.slice (some ⟨b, o, sp⟩) len cap) lo' hi' mx').run P w = .ok (.slice (some (if m' = l then ⟨b, o, sp⟩ else (⟨b, o, sp⟩ : Addr).add (l * n))) (h - l) (m' - l)) w := by
            simp only [Instr.sliceAt, Sem.run_bind, run_undA hu, Result.andThen_ok, Instr.slice, q1, run_szOf hn, Sem.run_pure, Option.map_some]
            split <;> rfl
          rw [hrun]
          refine good_none hr (.clean ?_)
          have htt : tightS mx tight h len = true → m' - l = h - l := fun ht => tight_sound ht q2 g2 q5 q7
          by_cases hml : m' = l
          · rw [if_pos hml]
            have hh : h = l := by omega
            subst hh
            have hnil : (if h = 0 ∧ h = len ∧ cells.length = h * n then cells else ((cells.take (h * n)).drop (h * n))) = [] := by
              split
              · rename_i hc
                apply List.eq_nil_of_length_eq_zero
                rw [hc.2.2, hc.1]; simp
              · apply List.eq_nil_of_length_eq_zero
                simp
            rw [hnil]
            exact .sl (by omega) htt (.inl rfl) (us := []) (fun i u hu => by simp at hu) .nil (.inr (by omega))
          · rw [if_neg hml]
            obtain rfl : sp = none := by
              rcases g6 with g6 | g6
              · exact g6
              · omega
            rw [add_addr]
            split
            · rename_i hc
              obtain ⟨rfl, hc2, hc3⟩ := hc
              refine .sl (by omega) htt (sp := none) g3 (us := us) ?_ g5 (.inl rfl)
              simpa using g4
            · have hus := g5.len
              refine .sl (by omega) htt (g3.imp (fun e => by rw [e]; simp) id) (us := (us.drop (l * n)).take (h * n - l * n)) ?_ ?_ (.inl rfl)
              · exact slice_cells g4 (l * n) _
              · have := (g5.take (h * n)).drop (l * n)
                rw [List.drop_take] at this
                rw [List.drop_take]
                rw [List.drop_take] at this
                exact this
        · exact (fail_run hm).elim
      · exact (fail_run hm).elim
    · rename_i n b off len cap ver hn
      obtain ⟨x, o, cp, rfl, g1, g2, g3, g4, g5⟩ := hx.inv_rsl
      split at hm
      · rename_i l h m hb
        have hcg : cap.getD len ≤ cp := by
          cases cap with
          | none => exact g2
          | some c => rw [g3 c rfl]; exact Nat.le_refl _
        obtain ⟨_, p2, p3, p4, p5, p6, p7⟩ := bounds_sound (P := P) (w := w) (isS := true) h1 h2 h3 hb
        obtain ⟨m', hm'⟩ : ∃ m', m' = if mx.isNone = true then cp else m := ⟨_, rfl⟩
        obtain ⟨q1, q2, q3, q4, q5, q6, q7⟩ := bounds_sound (P := P) (w := w) (isS := true) h1 h2 h3 (bounds_mono hb hcg)
        rw [← hm'] at q1 q3 q4 q5 q7
        have hhm : h ≤ m' := by
          cases hi with
          | none =>
            have := q6 rfl
            cases mx with
            | none => have := q5 rfl; omega
            | some v =>
              exfalso
              unfold boundsA at hb
              simp only at hb
              split at hb
              · cases hb
              · simp at hb
          | some _ => exact q3 rfl
        have hrun : (Instr.sliceAt t (.slice (some ⟨x, o, none⟩) len cp) lo' hi' mx').run P w = .ok (.slice (some (if m' = l then ⟨x, o, none⟩ else ⟨x, o + l * n, none⟩)) (h - l) (m' - l)) w := by
          simp only [Instr.sliceAt, Sem.run_bind, run_undA hu, Result.andThen_ok, Instr.slice, q1, run_szOf hn, Sem.run_pure, add_addr, Option.map_some]
          split <;> rfl
        rw [hrun]
        have hcap : ∀ k, capS mx cap l m = some k → m' - l = k := by
          intro k hk
          unfold capS at hk
          split at hk
          · cases hk
            rw [hm']
            simp
          · cases hk
            rw [hm']
            simp [g3 _ rfl]
          · cases hk
        have fin : ∀ cap2, (∀ k, cap2 = some k → m' - l = k) → (∀ c i, bs[b]? = some (.cells c i) → ver = verOf c i → x = K.β b ∧ (cap2 = none → off + l * n + (m' - l) * i.sz ≤ K.κ b ∧ c.length ≤ off + l * n + (m' - l) * i.sz)) →
            ValGood K bs w nid (.rsl b (off + l * n) (h - l) cap2 ver, .none) (.ok (.slice (some (if m' = l then ⟨x, o, none⟩ else ⟨x, o + l * n, none⟩)) (h - l) (m' - l)) w) := by
          intro cap2 hc2 hval
          refine good_none hr ?_
          by_cases hml : m' = l
          · rw [if_pos hml]
            exact .rsl g1 (by omega) hc2 (.inl (by omega)) hval
          · rw [if_neg hml]
            refine .rsl g1 (by omega) hc2 ?_ hval
            rcases g4 with g4 | g4
            · left; omega
            · right; rw [g4]
        split at hm
        · rename_i c hcs
          have := ret_run hm; subst this
          exact fin _ (fun k hk => hcap k (hcs.trans hk)) fun c i hc hv => ⟨(g5 c i hc hv).1, fun e => by cases e⟩
        · rename_i hcs
          obtain ⟨c0, i0, hb0, hm⟩ := info_run hm
          split at hm
          · rename_i hsz
            have := ret_run hm; subst this
            refine fin _ (fun k hk => by cases hk) fun c i hc hv => ?_
            rw [hb0] at hc; cases hc
            obtain ⟨k1, k2⟩ := g5 c0 i0 hb0 hv
            have hcn : cap = none ∧ mx = none := by
              unfold capS at hcs
              split at hcs
              · cases hcs
              · cases hcs
              · exact ⟨rfl, rfl⟩
            obtain ⟨rfl, rfl⟩ := hcn
            obtain ⟨k3, k4⟩ := k2 rfl
            have hmc : m' = cp := q5 rfl
            subst hmc
            rw [← hsz]
            have hmul : l * i0.sz + (m' - l) * i0.sz = m' * i0.sz := by
              rw [← Nat.add_mul]
              congr 1
              omega
            exact ⟨k1, fun _ => by omega⟩
          · exact (fail_run hm).elim
      · exact (fail_run hm).elim
    · exact (fail_run hm).elim
  · rename_i n e hu
    split at hm
    · rename_i sz b off ver hn
      obtain ⟨x, rfl, g1, g2⟩ := hx.inv_ref
      split at hm
      · rename_i l h m hb
        have := ret_run hm; subst this
        obtain ⟨q1, q2, q3, q4, q5, q6, q7⟩ := bounds_sound (P := P) (w := w) (isS := false) h1 h2 h3 hb
        have hhm : h ≤ m := by
          cases hi with
          | none =>
            have := q6 rfl
            cases mx with
            | none => have := q5 rfl; omega
            | some v =>
              exfalso
              unfold boundsA at hb
              simp only at hb
              split at hb
              · cases hb
              · simp at hb
          | some _ => exact q3 rfl
        have hrun : (Instr.sliceAt t (.pointer (some ⟨x, off, none⟩)) lo' hi' mx').run P w = .ok (.slice (some (if m = l then ⟨x, off, none⟩ else ⟨x, off + l * sz, none⟩)) (h - l) (m - l)) w := by
          simp only [Instr.sliceAt, Instr.sureAddr, Sem.run_bind, run_undA hu, Result.andThen_ok, q1, run_szOf hn, Sem.run_pure, add_addr]
        rw [hrun]
        refine good_none hr ?_
        by_cases hml : m = l
        · rw [if_pos hml]
          exact .rsl g1 (by omega) (fun k hk => by cases hk; rfl) (.inl (by omega)) fun c i hc hv => ⟨g2 c i hc hv, fun e => by cases e⟩
        · rw [if_neg hml]
          exact .rsl g1 (by omega) (fun k hk => by cases hk; rfl) (.inr rfl) fun c i hc hv => ⟨g2 c i hc hv, fun e => by cases e⟩
      · exact (fail_run hm).elim
    · rename_i sz cells off hn
      obtain ⟨b, o, us, rfl, g3, g4, g5⟩ := hx.inv_vref
      split at hm
      · rename_i l h m hb
        split at hm
        · rename_i hlen
          have := ret_run hm; subst this
          obtain ⟨q1, q2, q3, q4, q5, q6, q7⟩ := bounds_sound (P := P) (w := w) (isS := false) h1 h2 h3 hb
          have hhm : h ≤ m := by
            cases hi with
            | none =>
              have := q6 rfl
              cases mx with
              | none => have := q5 rfl; omega
              | some v =>
                exfalso
                unfold boundsA at hb
                simp only at hb
                split at hb
                · cases hb
                · simp at hb
            | some _ => exact q3 rfl
          have hrun : (Instr.sliceAt t (.pointer (some ⟨b, o + off, none⟩)) lo' hi' mx').run P w = .ok (.slice (some (if m = l then ⟨b, o + off, none⟩ else ⟨b, o + off + l * sz, none⟩)) (h - l) (m - l)) w := by
            simp only [Instr.sliceAt, Instr.sureAddr, Sem.run_bind, run_undA hu, Result.andThen_ok, q1, run_szOf hn, Sem.run_pure, add_addr]
          rw [hrun]
          refine good_none hr (.clean ?_)
          have ht : decide (m = h) = true → m - l = h - l := by intro e; simp at e; omega
          by_cases hml : m = l
          · rw [if_pos hml]
            have hh : h - l = 0 := by omega
            rw [hh]
            simp only [Nat.zero_mul, List.take_zero]
            rw [hh] at ht
            exact .sl (by omega) ht (.inl rfl) (us := []) (fun i u hu => by simp at hu) .nil (.inl rfl)
          · rw [if_neg hml]
            refine .sl (by omega) ht (g3.imp (fun e => by rw [e]; simp) id) (us := (us.drop (off + l * sz)).take ((h - l) * sz)) ?_ ((g5.drop _).take _) (.inl rfl)
            have := slice_cells g4 (off + l * sz) ((h - l) * sz)
            intro i u hu
            have := this i u hu
            rwa [← Nat.add_assoc] at this
        · exact (fail_run hm).elim
      · exact (fail_run hm).elim
    · exact (fail_run hm).elim
  · exact (fail_run hm).elim
end ops
end Go.Proofs.Ytnkeijebkpjdgaa.Ab
/- The engine, tenth text: arithmetic, comparisons, conversions. -/
namespace Go.Proofs.Ytnkeijebkpjdgaa.Ab
open Go

section ops
variable {P : Program} {K : KS} {bs : List AB} {w : World}

theorem less_eq : ∀ (x y : List UInt8), lessA x y = Op.bytesLess x y
  | _, [] => by unfold lessA Op.bytesLess; rfl
  | [], _ :: _ => by unfold lessA Op.bytesLess; rfl
  | a :: x, b :: y => by
    rw [lessA, Op.bytesLess, less_eq x y]
theorem str_sound {hp : Array Obj} {op : BinOp} {a b : List UInt8} {x y : ByteArray} (hx : x.data.toList = a) (hy : y.data.toList = b) {r : AV} (h : strA op a b = some r) :
    ∃ v, (Op.stringOp op x y).run P w = .ok v w ∧ RepV K bs hp r v := by
  have ex := ByteArray.toList_eq x
  have ey := ByteArray.toList_eq y
  rw [hx] at ex
  rw [hy] at ey
  have hsx := bytes_size hx
  have hsy := bytes_size hy
  unfold strA at h
  unfold Op.stringOp
  rw [ex, ey, hsx, hsy]
  cases op <;> (try simp only [Option.some.injEq] at h) <;> try (cases h; done)
  case add =>
    split at h
    · cases h
    · rename_i hc
      cases h
      refine ⟨.string (x ++ y), by simp only [hc, if_false, Sem.run_pure], .clean ?_⟩
      have : (x ++ y).data.toList = a ++ b := by rw [ByteArray.data_append, Array.toList_append, hx, hy]
      rw [← this]
      exact .str _
  all_goals
    subst h
    refine ⟨_, rfl, .clean ?_⟩
    (try simp only [less_eq])
    exact .bool _
theorem int_sound {hp : Array Obj} {op : BinOp} {k : IntKind} {x y : Int} {t : TypeId} {r : AV} (h : intArithA op k x y = some r) :
    ∃ v, (binOp op t (.int k x) (.int k y)).run P w = .ok v w ∧ RepV K bs hp r v := by
  have hk : ∀ (a b : Sem Value), (if k ≠ k then a else b) = b := fun a b => if_neg (fun h => h rfl)
  unfold intArithA at h
  unfold binOp
  cases op <;> (try simp only [Option.some.injEq] at h) <;> try (cases h; done)
  case quo =>
    split at h
    · cases h
    · rename_i hc
      cases h
      exact ⟨_, by simp [Op.intDiv, hc], .clean (.int _ _)⟩
  case rem =>
    split at h
    · cases h
    · rename_i hc
      cases h
      exact ⟨_, by simp [Op.intDiv, hc], .clean (.int _ _)⟩
  all_goals
    subst h
    first
      | exact ⟨_, by simp only [hk]; rfl, .clean (.int _ _)⟩
      | exact ⟨_, by simp only [hk]; rfl, .clean (.bool _)⟩
theorem shift_sound {hp : Array Obj} {op : BinOp} {k : IntKind} {x y : Int} {r : AV} (h : shiftA op k x y = some r) :
    ∃ v, (∀ yk, (Op.shift op k x yk y).run P w = .ok v w) ∧ RepV K bs hp r v := by
  unfold shiftA at h
  unfold Op.shift
  split at h
  · cases h
  · rename_i hc
    cases op <;> (try simp only [Option.some.injEq] at h) <;> try (cases h; done)
    all_goals
      subst h
      exact ⟨_, fun _ => by simp only [hc, if_false]; rfl, .clean (.int _ _)⟩
theorem sameCell_sound {hp : Array Obj} {a b : AV} {x y : Value} {s : Bool} (ha : RepV K bs hp a x) (hb : RepV K bs hp b y) (h : sameCell a b = some s) : sameCellV x y = some s := by
  unfold sameCell at h
  split at h
  · have := ha.inv_bool; subst this
    have := hb.inv_bool; subst this
    exact h
  · have := ha.inv_int; subst this
    have := hb.inv_int; subst this
    exact h
  · obtain ⟨t, rfl, ht⟩ := ha.inv_str
    obtain ⟨u, rfl, hu⟩ := hb.inv_str
    simp only [sameCellV]
    rw [← h]
    congr 1
    subst ht hu
    rw [show (t == u) = (t.toList == u.toList) from by
      rw [ByteArray.toList_eq, ByteArray.toList_eq]
      obtain ⟨⟨x⟩⟩ := t
      obtain ⟨⟨y⟩⟩ := u
      show ((⟨x⟩ : Array UInt8) == ⟨y⟩) = (x == y)
      simp, ByteArray.toList_eq, ByteArray.toList_eq]
  · cases h
theorem sameCells_sound {hp : Array Obj} : ∀ {a b : List AV} {x y : List Value} {s : Bool}, RepVL K bs hp a x → RepVL K bs hp b y → sameCells a b = some s → sameCellsV x y = some s
  | [], b, x, y, s, ha, hb, h => by
    cases ha
    cases b with
    | nil => cases hb; exact h
    | cons _ _ => simp [sameCells] at h
  | a :: as, b, x, y, s, ha, hb, h => by
    cases b with
    | nil => simp [sameCells] at h
    | cons c cs =>
      cases ha with
      | cons h0 ha =>
        cases hb with
        | cons h1 hb =>
          simp only [sameCells] at h
          cases hs : sameCell a c with
          | none => simp [hs] at h
          | some s1 =>
            cases ht : sameCells as cs with
            | none => simp [hs, ht] at h
            | some s2 =>
              simp only [hs, ht] at h
              simp only [sameCellsV, sameCell_sound h0 h1 hs, sameCells_sound ha hb ht, h]

theorem fitsA_sound {hp : Array Obj} : ∀ {ks : List Nat} {a : List AV} {x : List Value}, RepVL K bs hp a x → fitsA ks a = true → fitsV ks x = true
  | [], a, x, ha, h => by
    cases a with
    | nil => cases ha; rfl
    | cons _ _ => simp [fitsA] at h
  | k :: ks, a, x, ha, h => by
    cases a with
    | nil => simp [fitsA] at h
    | cons v r =>
      cases ha with
      | cons h0 ha =>
        cases v <;> simp only [fitsA, Bool.false_eq_true, Bool.and_eq_true] at h
        · have := h0.inv_bool; subst this
          simp only [fitsV, Bool.and_eq_true]; exact ⟨h.1, fitsA_sound ha h.2⟩
        · have := h0.inv_int; subst this
          simp only [fitsV, Bool.and_eq_true]; exact ⟨h.1, fitsA_sound ha h.2⟩
        · obtain ⟨t, rfl, _⟩ := h0.inv_str
          simp only [fitsV, Bool.and_eq_true]; exact ⟨h.1, fitsA_sound ha h.2⟩

/-- What is nil, in the machine. -/
theorem nilA_sound {hp : Array Obj} {a : AV} {x : Value} {k : Nat} {b : Bool} (ha : RepV K bs hp a x) (h : nilA a = some (k, b)) :
    (k = 0 → ∃ p, x = .pointer p ∧ p.isNone = b) ∧ (k = 1 → ∃ p n c, x = .slice p n c ∧ p.isNone = b) ∧ (k = 2 → ∃ p, x = .map p ∧ p.isNone = b) ∧ (k = 3 → (x = .nilFunc ∧ b = true) ∨ (∃ f y z, x = .func f y z ∧ b = false)) := by
  unfold nilA at h
  split at h <;> cases h
  · have := ha.inv_ptr0; subst this; simp
  · obtain ⟨x, rfl, _⟩ := ha.inv_ref; simp
  · obtain ⟨b, o, us, rfl, _⟩ := ha.inv_vref; simp
  · have := ha.inv_sl0; subst this; simp
  · obtain ⟨b, o, sp, cap, us, rfl, _⟩ := ha.inv_sl; simp
  · obtain ⟨x, o, cp, rfl, _⟩ := ha.inv_rsl; simp
  · have := ha.inv_map0; subst this; simp
  · obtain ⟨x, rfl, _⟩ := ha.inv_mref; simp
  · have := ha.inv_fn0; subst this; simp
  · obtain ⟨va, vb, rfl, _⟩ := ha.inv_fn; simp
  · simp
  · simp
theorem nilEq_sound {hp : Array Obj} {a b : AV} {x y : Value} {s : Bool} {t : TypeId} {d : TypeDesc} (ha : RepV K bs hp a x) (hb : RepV K bs hp b y) (ht : P.underlying t = some d) (h : nilEqA d a b = some s) : (Op.equal t x y).run P w = .ok s w := by
  unfold nilEqA at h
  split at h
  · rename_i k p k' q h1 h2
    split at h
    · rename_i hc
      obtain ⟨rfl, hor, hk⟩ := hc
      cases h
      have g1 := nilA_sound ha h1
      have g2 := nilA_sound hb h2
      obtain ⟨N, hN⟩ : ∃ N, Op.maxDepth = N + 1 := ⟨9999, rfl⟩
      unfold Op.equal
      rw [hN]
      clear hN
      unfold Op.equalIn
      simp only [Sem.run_bind, run_undA ht, Result.andThen_ok]
      cases d <;> simp only [kindA] at hk <;> try (cases hk; done)
      all_goals
        cases hk
      · obtain ⟨u, rfl, e1⟩ := g1.1 rfl
        obtain ⟨v, rfl, e2⟩ := g2.1 rfl
        cases u <;> cases v <;> simp_all
      · obtain ⟨u, n, c, rfl, e1⟩ := g1.2.1 rfl
        obtain ⟨v, m, d, rfl, e2⟩ := g2.2.1 rfl
        cases u <;> cases v <;> simp_all
      · obtain ⟨u, rfl, e1⟩ := g1.2.2.1 rfl
        obtain ⟨v, rfl, e2⟩ := g2.2.2.1 rfl
        cases u <;> cases v <;> simp_all
      · rcases g1.2.2.2 rfl with ⟨rfl, e1⟩ | ⟨f, y, z, rfl, e1⟩ <;> rcases g2.2.2.2 rfl with ⟨rfl, e2⟩ | ⟨f', y', z', rfl, e2⟩ <;> simp_all
    · cases h
  · cases h
theorem eq_sound {hp : Array Obj} {flat : TypeId → Option (List Nat)} (hf : ∀ t ks, flat t = some ks → FlatTy P t ks) {a b : AV} {x y : Value} {s : Bool} {t : TypeId} (ha : RepV K bs hp a x) (hb : RepV K bs hp b y) (h : eqA P flat t a b = some s) (op : BinOp) (p q : Operand) (ho : op = .eql ∨ op = .neq) :
    (eqGuard op t p q x y).run P w = .ok () w ∧ (Op.equal t x y).run P w = .ok s w := by
  unfold eqA at h
  split at h
  · have := ha.inv_bool; subst this
    have := hb.inv_bool; subst this
    split at h
    · rename_i ht
      cases h
      refine ⟨by simp [eqGuard], ?_⟩
      obtain ⟨N, hN⟩ : ∃ N, Op.maxDepth = N + 1 := ⟨9999, rfl⟩
      unfold Op.equal
      rw [hN]
      clear hN
      unfold Op.equalIn
      simp only [Sem.run_bind, run_undA ht, Result.andThen_ok]
      rfl
    · cases h
  · obtain ⟨xs, rfl, h1⟩ := ha.inv_agg
    obtain ⟨ys, rfl, h2⟩ := hb.inv_agg
    split at h
    · rename_i ks hft
      split at h
      · rename_i hfa
        exact hf t ks hft xs ys s w op p q (fitsA_sound h1 hfa) (sameCells_sound h1 h2 h) ho
      · cases h
    · cases h
  · rename_i hna hnb
    split at h
    · rename_i d ht
      refine ⟨?_, nilEq_sound ha hb ht h⟩
      have hx : x ≠ .nilIface ∧ ∀ c, x ≠ .agg c := by
        unfold nilEqA at h
        split at h
        · rename_i k p k' q h1 h2
          split at h
          · rename_i hc
            obtain ⟨rfl, hor, hk⟩ := hc
            have g1 := nilA_sound ha h1
            cases d <;> simp only [kindA] at hk <;> try (cases hk; done)
            all_goals
              cases hk
            · obtain ⟨u, rfl, e1⟩ := g1.1 rfl; simp
            · obtain ⟨u, n, c, rfl, e1⟩ := g1.2.1 rfl; simp
            · obtain ⟨u, rfl, e1⟩ := g1.2.2.1 rfl; simp
            · rcases g1.2.2.2 rfl with ⟨rfl, e1⟩ | ⟨f, y, z, rfl, e1⟩ <;> simp
          · cases h
        · cases h
      unfold eqGuard
      rcases ho with rfl | rfl <;> simp only [Bool.not_true, Bool.false_eq_true, if_false] <;>
        (split <;> first | (exact absurd rfl hx.1) | (exact absurd rfl (hx.2 _)) | simp)
    · cases h
theorem eq_shape {hp : Array Obj} {flat : TypeId → Option (List Nat)} {a b : AV} {x : Value} {s : Bool} {t : TypeId} (ha : RepV K bs hp a x) (h : eqA P flat t a b = some s) :
    (∃ b, x = .bool b) ∨ (∃ c, x = .agg c) ∨ (∃ p, x = .pointer p) ∨ (∃ p n c, x = .slice p n c) ∨ (∃ p, x = .map p) ∨ x = .nilFunc ∨ (∃ f y z, x = .func f y z) := by
  unfold eqA at h
  split at h
  · have := ha.inv_bool; subst this
    exact .inl ⟨_, rfl⟩
  · obtain ⟨xs, rfl, h1⟩ := ha.inv_agg
    exact .inr (.inl ⟨_, rfl⟩)
  · split at h
    · rename_i d _
      unfold nilEqA at h
      split at h
      · rename_i k p k' q h1 h2
        split at h
        · rename_i hc
          obtain ⟨rfl, hor, hk⟩ := hc
          have g1 := nilA_sound ha h1
          cases d <;> simp only [kindA] at hk <;> try (cases hk; done)
          all_goals
            cases hk
          · obtain ⟨u, rfl, e1⟩ := g1.1 rfl; simp
          · obtain ⟨u, n, c, rfl, e1⟩ := g1.2.1 rfl; simp
          · obtain ⟨u, rfl, e1⟩ := g1.2.2.1 rfl; simp
          · rcases g1.2.2.2 rfl with ⟨rfl, e1⟩ | ⟨f, y, z, rfl, e1⟩ <;> simp
        · cases h
      · cases h
    · cases h
theorem bin_sound {hp : Array Obj} {flat : TypeId → Option (List Nat)} (hf : ∀ t ks, flat t = some ks → FlatTy P t ks) {op : BinOp} {t : TypeId} {a b r : AV} {x y : Value} (ha : RepV K bs hp a x) (hb : RepV K bs hp b y) (h : binA P flat op t a b = some r) (p q : Operand) :
    ∃ v, (do eqGuard op t p q x y; binOp op t x y : Sem Value).run P w = .ok v w ∧ RepV K bs hp r v := by
  have hints : ∀ k n k' m, (eqGuard op t p q (.int k n) (.int k' m)).run P w = .ok () w := by
    intro k n k' m
    unfold eqGuard
    split <;> simp
  have hstrs : ∀ s u, (eqGuard op t p q (.string s) (.string u)).run P w = .ok () w := by
    intro s u
    unfold eqGuard
    split <;> simp
  unfold binA at h
  split at h
  · have := ha.inv_int; subst this
    have := hb.inv_int; subst this
    obtain ⟨v, h1, h2⟩ := shift_sound (P := P) (w := w) (K := K) (bs := bs) (hp := hp) h
    exact ⟨v, by simp [hints, binOp, h1], h2⟩
  · have := ha.inv_int; subst this
    have := hb.inv_int; subst this
    obtain ⟨v, h1, h2⟩ := shift_sound (P := P) (w := w) (K := K) (bs := bs) (hp := hp) h
    exact ⟨v, by simp [hints, binOp, h1], h2⟩
  · have := ha.inv_int; subst this
    have := hb.inv_int; subst this
    split at h
    · rename_i e
      subst e
      obtain ⟨v, h1, h2⟩ := int_sound (P := P) (w := w) (t := t) (K := K) (bs := bs) (hp := hp) h
      exact ⟨v, by simp [hints, h1], h2⟩
    · cases h
  · rename_i a b _ _
    obtain ⟨s, rfl, hs⟩ := ha.inv_str
    obtain ⟨u, rfl, hu⟩ := hb.inv_str
    obtain ⟨v, h1, h2⟩ := str_sound (P := P) (w := w) (K := K) (bs := bs) (hp := hp) hs hu h
    refine ⟨v, ?_, h2⟩
    have : binOp op t (.string s) (.string u) = Op.stringOp op s u := by unfold binOp; cases op <;> rfl
    simp [hstrs, this, h1]
  · cases he : eqA P flat t a b with
    | none => simp [he] at h
    | some s =>
      simp only [he, Option.map_some, Option.some.injEq] at h
      subst h
      obtain ⟨g1, g2⟩ := eq_sound (w := w) hf ha hb he .eql p q (.inl rfl)
      refine ⟨.bool s, ?_, .clean (.bool _)⟩
      have hb' : binOp .eql t x y = (do pure (.bool (← Op.equal t x y)) : Sem Value) := by
        rcases eq_shape ha he with ⟨_, rfl⟩ | ⟨_, rfl⟩ | ⟨_, rfl⟩ | ⟨_, _, _, rfl⟩ | ⟨_, rfl⟩ | rfl | ⟨_, _, _, rfl⟩ <;> rfl
      simp [g1, hb', g2]
  · cases he : eqA P flat t a b with
    | none => simp [he] at h
    | some s =>
      simp only [he, Option.map_some, Option.some.injEq] at h
      subst h
      obtain ⟨g1, g2⟩ := eq_sound (w := w) hf ha hb he .neq p q (.inr rfl)
      refine ⟨.bool !s, ?_, .clean (.bool _)⟩
      have hb' : binOp .neq t x y = (do pure (.bool (!(← Op.equal t x y))) : Sem Value) := by
        rcases eq_shape ha he with ⟨_, rfl⟩ | ⟨_, rfl⟩ | ⟨_, rfl⟩ | ⟨_, _, _, rfl⟩ | ⟨_, rfl⟩ | rfl | ⟨_, _, _, rfl⟩ <;> rfl
      simp [g1, hb', g2]
  · cases h
end ops
end Go.Proofs.Ytnkeijebkpjdgaa.Ab
