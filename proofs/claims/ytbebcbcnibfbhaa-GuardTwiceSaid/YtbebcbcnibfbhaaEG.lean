import Derived.Test.YtbebcbcnibfbhaaEF
import Derived.Laws.Tables
import Derived.Laws.Strings
import Derived.Laws.IdiomStrings
import Derived.Laws.BytesString
/- The engine, seventh text: the operations on values are sound. -/
namespace Go.Proofs.Ytbebcbcnibfbhaa.Ab
open Go

section ops
variable {P : Program} {K : KS} {bs : List AB} {w : World}

theorem toCells_rep' {a : AV} {v : Value} {hp : Array Obj} (h : RepV K bs hp a v) {c : List AV} (hc : a.toCells = some c) : RepVL K bs hp c v.cells.toList := by
  unfold AV.toCells at hc
  split at hc
  · cases hc
    obtain ⟨vs, rfl, h1⟩ := h.inv_agg
    exact h1
  · cases hc
  · cases hc
  · rename_i h1 h2 h3
    cases hc
    have hone : v.oneCell' = true := by
      refine oneA_one h ?_
      unfold oneA
      split
      · rename_i c; exact absurd rfl (h1 c)
      · rename_i c; exact absurd rfl (h2 c)
      · exact absurd rfl h3
      · rfl
    have hv : v.cells = #[v] := by cases v <;> first | rfl | (simp [Value.oneCell'] at hone)
    rw [hv]
    exact .cons h .nil
theorem pick_sound {t : Bool} {a b : AV} {a' b' : Value} {hp : Array Obj} (ha : RepV K bs hp a a') (hb : RepV K bs hp b b') : RepV K bs hp (pickA t a b) (if t then a' else b') := by
  unfold pickA
  split
  · have := ha.inv_bool; subst this
    have := hb.inv_bool; subst this
    cases t <;> exact .clean (.bool _)
  · cases t
    · simpa using hb
    · simpa using ha
theorem foldl_splice (off : Nat) : ∀ (vs : List Value) (k : Nat) (cells : Array Value), off + k + vs.length ≤ cells.size →
    (vs.zipIdx k).foldl (fun cs (x : Value × Nat) => cs.setIfInBounds (off + x.2) x.1) cells = (spliceV cells.toList (off + k) vs).toArray
  | [], k, cells, _ => by simp [spliceV]
  | v :: vs, k, cells, h => by
    simp only [List.zipIdx_cons, List.foldl_cons]
    have hl : (cells.setIfInBounds (off + k) v).size = cells.size := by simp
    simp only [List.length_cons] at h
    rw [foldl_splice off vs (k + 1) _ (by rw [hl]; omega)]
    apply Array.ext'
    simp only [Array.toList_setIfInBounds]
    apply List.ext_getElem?
    intro j
    have e1 := spliceV_get (cells.toList.set (off + k) v) (off + (k + 1)) vs (by simp; omega) j
    have e3 := spliceV_get cells.toList (off + k) (v :: vs) (by simp; omega) j
    simp only [List.length_cons] at e3
    rw [e1, e3]
    rw [List.getElem?_set]
    by_cases k1 : j < off + k
    · rw [if_pos (by omega), if_neg (by omega), if_pos k1]
    · by_cases k2 : j = off + k
      · subst k2
        rw [if_pos (by omega), if_pos rfl, if_pos (by simp; omega), if_neg (by omega), if_pos (by omega)]
        simp
      · rw [if_neg (by omega), if_neg k1]
        by_cases k3 : j < off + (k + 1) + vs.length
        · rw [if_pos k3, if_pos (by omega), show j - (off + k) = (j - (off + (k + 1))) + 1 by omega, List.getElem?_cons_succ]
        · rw [if_neg k3, if_neg (by omega), if_neg (by omega)]
theorem fill_sound {hp : Array Obj} {place : Nat → Option (Nat × Nat)} : ∀ (ps : List (Nat × AV)) (qs : List (Nat × Value)) (c c' : List AV) (us : List Value), fillA place c ps = some c' → RepVL K bs hp c us →
    ps.map (·.1) = qs.map (·.1) → RepVL K bs hp (ps.map (·.2)) (qs.map (·.2)) → ∃ us', Instr.fill place us.toArray qs = some us'.toArray ∧ RepVL K bs hp c' us'
  | [], qs, c, c', us, h, hr, hk, _ => by
    cases qs with
    | nil => simp [fillA] at h; subst h; exact ⟨us, rfl, hr⟩
    | cons q qs => simp at hk
  | p :: ps, [], c, c', us, h, hr, hk, _ => by simp at hk
  | (i, v) :: ps, (j, u) :: qs, c, c', us, h, hr, hk, hv => by
    simp only [List.map_cons, List.cons.injEq] at hk
    obtain ⟨rfl, hk⟩ := hk
    simp only [List.map_cons] at hv
    cases hv with
    | cons h0 hv =>
      simp only [fillA] at h
      cases hp' : place i with
      | none => simp [hp'] at h
      | some x =>
        obtain ⟨off, n⟩ := x
        cases hc : v.toCells with
        | none => simp [hp', hc] at h
        | some vs =>
          simp only [hp', hc] at h
          split at h
          · rename_i hcond
            have hu := toCells_rep' h0 hc
            have hlen : u.cells.size = vs.length := by rw [hu.len]; simp
            have hul := hr.len
            have hsp := splice_rep hr hu (show off + vs.length ≤ c.length by omega)
            obtain ⟨us', h1, h2⟩ := fill_sound ps qs _ c' _ h hsp hk hv
            refine ⟨us', ?_, h2⟩
            simp only [Instr.fill, hp']
            rw [if_neg (by simp; omega)]
            rw [← h1]
            congr 1
            rw [← Array.foldl_toList, Array.toList_zipIdx]
            have := foldl_splice off u.cells.toList 0 us.toArray (by simp; omega)
            simpa using this
          · cases h
theorem map_fst {f : Operand → AV} {g : Operand → Value} (l : List (Nat × Operand)) : (l.map fun p => (p.1, f p.2)).map (·.1) = (l.map fun p => (p.1, g p.2)).map (·.1) := by simp
theorem map_snd {hp : Array Obj} {f : Operand → AV} {g : Operand → Value} (l : List (Nat × Operand)) (h : ∀ x, RepV K bs hp (f x) (g x)) : RepVL K bs hp ((l.map fun p => (p.1, f p.2)).map (·.2)) ((l.map fun p => (p.1, g p.2)).map (·.2)) := by
  rw [List.map_map, List.map_map]
  exact RepVL.map fun x _ => h x.2
theorem zero_info {t : TypeId} {z : List AV} (h : zeroCellsA P t = some z) : ∃ i v, P.info? t = some i ∧ i.zero = some v ∧ (∀ (K : KS) (bs : List AB) (hp : Array Obj), RepVL K bs hp z v.cells.toList) := by
  unfold zeroCellsA zeroA at h
  cases hi : P.info? t with
  | none => simp [hi] at h
  | some i =>
    cases hz : i.zero with
    | none => simp [hi, hz] at h
    | some v =>
      simp [hi, hz] at h
      exact ⟨i, v, rfl, hz, fun K bs hp => toCells_rep' (K := K) (bs := bs) (.clean (ofValue_rep K.I hp v)) h⟩
theorem run_zero {t : TypeId} {i : TypeInfo} {v : Value} (h : P.info? t = some i) (hz : i.zero = some v) : (zeroValue t).run P w = .ok v w := by
  simp [zeroValue, typeInfo, h, hz]

theorem obj_cells {hp : Array Obj} {c : List AV} {us : List Value} (h : RepVL K bs hp c us) (ho : ∀ (j : Nat) (u : Value), us[j]? = some u → u.oneCell' = true) (e : TypeId) (i : BI) (hc : i.cl = true → cleanL c = true) :
    ObjR K bs hp us.length (.cells c i) (.cells us.toArray e (0, 0)) :=
  ⟨us.toArray, e, 0, 0, us, rfl, .inl rfl, by simp, fun j u hu => ⟨by simpa using hu, ho j u hu⟩, h, hc⟩
/-- A new block of cells, behind a reference. -/
theorem good_box (hr : HR K bs w.heap) {nid : Nat} (hn : nid = bs.length ∨ bs[nid]? = some .void) {c : List AV} {us : List Value} (h : RepVL K bs w.heap c us) (ho : oneL c = true) (e : TypeId) (w2 : World) (hw2 : w2 = { w with heap := w.heap.push (.cells us.toArray e) }) :
    ValGood K bs w nid (.ref nid 0 0, .new (.cells c ⟨false, 0, false, true⟩)) (.ok (.pointer (some ⟨w.heap.size, 0, none⟩)) w2) := by
  subst hw2
  obtain ⟨K', hg, h1, h2⟩ := goes_new hr hn (x := .cells c ⟨false, 0, false, true⟩) (k := us.length) rfl (obj_cells h (oneL_one h ho) e ⟨false, 0, false, true⟩ (by simp))
  exact ⟨_, _, K', rfl, hg, .ref ⟨_, (app_new_get bs nid _ hn).1, rfl, fun _ => Nat.zero_le _⟩ fun c' i' hc _ => h1.symm⟩
theorem good_row (hr : HR K bs w.heap) {nid : Nat} (hn : nid = bs.length ∨ bs[nid]? = some .void) {c : List AV} {o : Obj} {k n cp : Nat} {i : BI} {cap : Option Nat} {ver : Nat} (hw : i.wr = true) (ho : ObjR K bs w.heap k (.cells c i) o) (hver : ver = verA i c.length)
    (hcp : n ≤ cp) (hcap : ∀ m, cap = some m → cp = m) (hopen : cap = none → cp * i.sz ≤ k ∧ c.length ≤ cp * i.sz) (w2 : World) (d : Nat) (hw2 : w2 = { w with heap := w.heap.push o, drawn := d }) :
    ValGood K bs w nid (.rsl nid 0 n cap ver, .new (.cells c i)) (.ok (.slice (some ⟨w.heap.size, 0, none⟩) n cp) w2) := by
  subst hw2
  obtain ⟨K', hg, h1, h2⟩ := goes_new hr hn (x := .cells c i) (k := k) hw ho
  have hget := (app_new_get bs nid (.cells c i) hn).1
  refine ⟨_, _, K', rfl, ⟨hg.tr, hg.hr, hg.os, hg.tape, hg.output⟩, .rsl ⟨_, hget, rfl, fun _ => by rw [hver]; exact Nat.le_refl _⟩ hcp hcap (.inr rfl) fun c' i' hc hv => ?_⟩
  rw [hget] at hc
  cases hc
  rw [h1, h2]
  exact ⟨rfl, fun hh => by have := hopen hh; omega⟩

theorem alloc_sound (hr : HR K bs w.heap) {nid : Nat} (hn : nid = bs.length ∨ bs[nid]? = some .void) {e : TypeId} {z : List AV} (hz : zeroCellsA P e = some z) (ho : oneL z = true) :
    ValGood K bs w nid (.ref nid 0 0, .new (.cells z ⟨false, 0, false, true⟩)) ((Instr.alloc e true (.tuple #[])).run P w) := by
  obtain ⟨i, v, hi, hv, hrep⟩ := zero_info hz
  have hrun : (Instr.alloc e true (.tuple #[])).run P w = .ok (.pointer (some ⟨w.heap.size, 0, none⟩)) { w with heap := w.heap.push (.cells v.cells e) } := by
    simp [Instr.alloc, run_zero hi hv, newVar, newRow]
  rw [hrun]
  exact good_box hr hn (hrep K bs w.heap) ho e _ (by simp)
theorem box_sound (hr : HR K bs w.heap) {nid : Nat} (hn : nid = bs.length ∨ bs[nid]? = some .void) {e : TypeId} {a : AV} {v : Value} (ha : RepV K bs w.heap a v) {c : List AV} (hc : a.toCells = some c) (ho : oneL c = true) :
    ValGood K bs w nid (.ref nid 0 0, .new (.cells c ⟨false, 0, false, true⟩)) ((Instr.box e v).run P w) := by
  have hrun : (Instr.box e v).run P w = .ok (.pointer (some ⟨w.heap.size, 0, none⟩)) { w with heap := w.heap.push (.cells v.cells e) } := by
    simp [Instr.box, newVar, newRow]
  rw [hrun]
  exact good_box hr hn (toCells_rep' ha hc) ho e _ (by simp)
theorem build_sound (hr : HR K bs w.heap) {nid : Nat} {t : TypeId} {parts : Array (Nat × Operand)} {ρ : Operand → AV} {ρ' : Operand → Value} (hρ : ∀ x, RepV K bs w.heap (ρ x) (ρ' x)) {flat : TypeId → Option (List Nat)} {r : Out}
    (hm : (evOp P flat nid (.build t parts) ρ).run bs = some r) : ValGood K bs w nid r ((Instr.build t (parts.map fun (i, x) => (i, ρ' x))).run P w) := by
  simp only [evOp] at hm
  cases hz : zeroCellsA P t with
  | none => simp only [hz] at hm; exact (fail_run hm).elim
  | some z =>
    obtain ⟨it, v, hi, hv, hrep⟩ := zero_info hz
    cases hu : P.underlying t with
    | none => simp only [hz, hu] at hm; exact (fail_run hm).elim
    | some d =>
      have hparts : (parts.map fun (x : Nat × Operand) => (x.1, ρ' x.2)).toList = parts.toList.map fun p => (p.1, ρ' p.2) := by simp
      cases d with
      | struct fs =>
        simp only [hz, hu] at hm
        cases hpl : fs.toList.mapM (fun f => (P.info? f.type).map fun i => (f.offset, i.size)) with
        | none => simp only [hpl] at hm; exact (fail_run hm).elim
        | some places =>
          simp only [hpl] at hm
          obtain ⟨a, ha, rfl⟩ := pur_run hm
          cases hf : fillA (places.toArray[·]?) z (parts.toList.map fun p => (p.1, ρ p.2)) with
          | none => simp only [hf, Option.map_none] at ha; cases ha
          | some c =>
            simp only [hf, Option.map_some, Option.some.injEq] at ha
            subst ha
            obtain ⟨us', h1, h2⟩ := fill_sound _ _ z c _ hf (hrep K bs w.heap) (map_fst (g := ρ') parts.toList) (map_snd parts.toList hρ)
            have hb : P.built t (parts.map fun (x : Nat × Operand) => (x.1, ρ' x.2)).toList = some us'.toArray := by
              unfold Program.built
              simp only [hi, hu, hv, hpl]
              rw [hparts]
              simpa using h1
            rw [run_build w t _ _ hb]
            exact good_none hr (.agg h2)
      | array m e =>
        simp only [hz, hu] at hm
        cases hs : szOf P e with
        | none => simp only [hs] at hm; exact (fail_run hm).elim
        | some n =>
          simp only [hs] at hm
          obtain ⟨ie, hie, hn⟩ := szOf_info hs
          obtain ⟨a, ha, rfl⟩ := pur_run hm
          cases hf : fillA (fun i => some (i * n, n)) z (parts.toList.map fun p => (p.1, ρ p.2)) with
          | none => simp only [hf, Option.map_none] at ha; cases ha
          | some c =>
            simp only [hf, Option.map_some, Option.some.injEq] at ha
            subst ha
            obtain ⟨us', h1, h2⟩ := fill_sound _ _ z c _ hf (hrep K bs w.heap) (map_fst (g := ρ') parts.toList) (map_snd parts.toList hρ)
            have hb : P.built t (parts.map fun (x : Nat × Operand) => (x.1, ρ' x.2)).toList = some us'.toArray := by
              unfold Program.built
              simp only [hi, hu, hv, hie, hn]
              rw [hparts]
              simpa using h1
            rw [run_build w t _ _ hb]
            exact good_none hr (.agg h2)
      | _ => simp only [hz, hu] at hm; exact (fail_run hm).elim
theorem repCells_rep {hp : Array Obj} (n : Nat) {z : List AV} {us : List Value} (h : RepVL K bs hp z us) : RepVL K bs hp (repCells n z) (List.replicate n us).flatten := by
  have gen : RepVL K bs hp (List.replicate n z).flatten (List.replicate n us).flatten := by
    induction n with
    | zero => exact .nil
    | succ n ih => simp only [List.replicate_succ, List.flatten_cons]; exact h.app ih
  unfold repCells
  split
  · cases h with
    | cons h0 h =>
      cases h
      have e : ∀ (x : Value), (List.replicate n [x]).flatten = List.replicate n x := by
        intro x
        induction n with
        | zero => rfl
        | succ n ih => simp [List.replicate_succ]
      rw [e]
      exact RepVL.rep n h0
  · exact gen
theorem flatten_get {α : Type} (us : List α) (hpos : 0 < us.length) : ∀ (n j : Nat), (List.replicate n us).flatten[j]? = if j < n * us.length then us[j % us.length]? else none
  | 0, j => by simp
  | n + 1, j => by
    simp only [List.replicate_succ, List.flatten_cons]
    by_cases h : j < us.length
    · rw [List.getElem?_append_left h, if_pos (by rw [Nat.add_mul]; omega), Nat.mod_eq_of_lt h]
    · rw [List.getElem?_append_right (by omega), flatten_get us hpos n]
      have e : (j - us.length) % us.length = j % us.length := by
        conv => rhs; rw [show j = (j - us.length) + us.length by omega, Nat.add_mod_right]
      rw [e]
      by_cases h2 : j < (n + 1) * us.length
      · rw [if_pos h2, if_pos (by rw [Nat.add_mul] at h2; omega)]
      · rw [if_neg h2, if_neg (by rw [Nat.add_mul] at h2; omega)]
theorem flatten_len {α : Type} (us : List α) (n : Nat) : (List.replicate n us).flatten.length = n * us.length := by
  induction n with
  | zero => simp
  | succ n ih => simp [List.replicate_succ, Nat.add_mul, Nat.add_comm]
/-- The row of zero cells, as the machine lays it. -/
theorem zeroRow_eq (us : List Value) (n : Nat) (hpos : 0 < us.length) : (Array.range (n * us.length)).map (fun i => us.toArray[i % us.toArray.size]!) = (List.replicate n us).flatten.toArray := by
  apply Array.ext_getElem?
  intro j
  rw [Array.getElem?_map, Array.getElem?_range, List.getElem?_toArray, flatten_get us hpos]
  by_cases h : j < n * us.length
  · rw [if_pos h, if_pos h]
    have : j % us.length < us.length := Nat.mod_lt _ hpos
    simp [this]
  · rw [if_neg h, if_neg h]
    rfl
theorem oneL_rep (n : Nat) {z : List AV} (h : oneL z = true) : oneL (repCells n z) = true := by
  have app : ∀ (x y : List AV), oneL x = true → oneL y = true → oneL (x ++ y) = true := by
    intro x y hx hy
    induction x with
    | nil => exact hy
    | cons a x ih => simp only [oneL, Bool.and_eq_true, List.cons_append] at hx ⊢; exact ⟨hx.1, ih hx.2⟩
  unfold repCells
  split
  · rename_i v
    simp [oneL] at h
    induction n with
    | zero => rfl
    | succ n ih => simp [List.replicate_succ, oneL, h, ih]
  · induction n with
    | zero => rfl
    | succ n ih => simp only [List.replicate_succ, List.flatten_cons]; exact app _ _ h ih
theorem cleanL_app {x y : List AV} : cleanL (x ++ y) = (cleanL x && cleanL y) := by
  induction x with
  | nil => rfl
  | cons a x ih => simp [cleanL, ih, Bool.and_assoc]
theorem cleanL_rep (n : Nat) {z : List AV} (h : cleanL z = true) : cleanL (repCells n z) = true := by
  unfold repCells
  split
  · rename_i v
    simp [cleanL] at h
    induction n with
    | zero => rfl
    | succ n ih => simp [List.replicate_succ, cleanL, h, ih]
  · induction n with
    | zero => rfl
    | succ n ih => simp [List.replicate_succ, cleanL_app, h, ih]
theorem repCells_len (n : Nat) (z : List AV) : (repCells n z).length = n * z.length := by
  unfold repCells
  split
  · simp
  · exact flatten_len _ _
theorem buildSlice_sound (hr : HR K bs w.heap) {nid : Nat} (hn : nid = bs.length ∨ bs[nid]? = some .void) {t : TypeId} {len : Nat} {parts : Array (Nat × Operand)} {ρ : Operand → AV} {ρ' : Operand → Value} (hρ : ∀ x, RepV K bs w.heap (ρ x) (ρ' x)) {flat : TypeId → Option (List Nat)} {r : Out}
    (hm : (evOp P flat nid (.buildSlice t len parts) ρ).run bs = some r) : ValGood K bs w nid r ((Instr.buildSlice t len (parts.map fun (i, x) => (i, ρ' x))).run P w) := by
  simp only [evOp] at hm
  cases hu : P.underlying t with
  | none => simp only [hu] at hm; exact (fail_run hm).elim
  | some d =>
    cases d with
    | slice e =>
      simp only [hu] at hm
      cases hs : szOf P e with
      | none => simp only [hs] at hm; exact (fail_run hm).elim
      | some n =>
        cases hz : zeroCellsA P e with
        | none => simp only [hs, hz] at hm; exact (fail_run hm).elim
        | some z =>
          simp only [hs, hz] at hm
          split at hm
          · rename_i hc
            obtain ⟨h24, hzl⟩ := hc
            cases hf : fillA (fun i => some (i * n, n)) (repCells len z) (parts.toList.map fun p => (p.1, ρ p.2)) with
            | none => simp only [hf] at hm; exact (fail_run hm).elim
            | some c =>
              simp only [hf] at hm
              split at hm
              · rename_i hone
                have := ret_run hm
                subst this
                obtain ⟨it, v, hi, hv, hrep⟩ := zero_info hz
                obtain ⟨ie, hie, hse⟩ := szOf_info hs
                rw [hi] at hie; cases hie
                have hzr := hrep K bs w.heap
                have hvl : v.cells.toList.length = n := by rw [← hzr.len, hzl]
                obtain ⟨us', h1, h2⟩ := fill_sound _ _ _ c _ hf (repCells_rep len hzr) (map_fst (g := ρ') parts.toList) (map_snd parts.toList hρ)
                have hlen2 : c.length = len * n := by
                  have gen : ∀ (ps : List (Nat × AV)) (a b : List AV), fillA (fun i => some (i * n, n)) a ps = some b → b.length = a.length := by
                    intro ps
                    induction ps with
                    | nil => intro a b h; simp [fillA] at h; rw [h]
                    | cons p ps ih =>
                      intro a b h
                      obtain ⟨i, v⟩ := p
                      simp only [fillA] at h
                      split at h
                      · split at h
                        · rename_i o m vs e1 e2 hcc
                          rw [ih _ _ h, splice_len]
                        · cases h
                      · cases h
                  rw [gen _ _ _ hf, repCells_len, hzl]
                have hrun : (Instr.buildSlice t len (parts.map fun (x : Nat × Operand) => (x.1, ρ' x.2))).run P w = .ok (.slice (some ⟨w.heap.size, 0, none⟩) len len) { w with heap := w.heap.push (.cells us'.toArray e) } := by
                  have hparts : (parts.map fun (x : Nat × Operand) => (x.1, ρ' x.2)).toList = parts.toList.map fun p => (p.1, ρ' p.2) := by simp
                  unfold Instr.buildSlice
                  by_cases h0 : len * n = 0
                  · have hnil : (List.replicate len v.cells.toList).flatten = [] := by
                      apply List.eq_nil_of_length_eq_zero
                      rw [flatten_len, hvl]; exact h0
                    rw [hnil] at h1
                    have h1' : Instr.fill (fun i => some (i * n, n)) #[] (parts.toList.map fun p => (p.1, ρ' p.2)) = some us'.toArray := h1
                    have har : ∀ f : Nat → Value, (Array.range (len * n)).map f = #[] := by
                      intro f; rw [h0]; exact Array.eq_empty_of_size_eq_zero (by simp)
                    simp only [Sem.run_bind, run_undA hu, Result.andThen_ok, run_szOf hs]
                    rw [if_neg (by omega)]
                    simp only [h0, if_true] at har ⊢
                    simp only [Sem.run_bind, Sem.run_pure, Result.andThen_ok, har, hparts, h1']
                    simp [newRow]
                  · have hpos : 0 < v.cells.toList.length := by
                      rw [hvl]
                      rcases Nat.eq_zero_or_pos n with h | h
                      · exfalso; apply h0; rw [h]; simp
                      · exact h
                    have hrow := zeroRow_eq v.cells.toList len hpos
                    rw [hvl] at hrow
                    have hrow' : (Array.range (len * n)).map (fun i => v.cells[i % v.cells.size]!) = (List.replicate len v.cells.toList).flatten.toArray := by simpa using hrow
                    simp only [Sem.run_bind, run_undA hu, Result.andThen_ok, run_szOf hs]
                    rw [if_neg (by omega)]
                    simp only [h0, if_false]
                    simp only [Sem.run_bind, Sem.run_pure, Result.andThen_ok, run_zero hi hv, hrow', hparts, h1]
                    simp [newRow]
                rw [hrun]
                refine good_row hr hn (k := us'.length) rfl (obj_cells h2 (oneL_one h2 hone) e ⟨false, n, false, true⟩ (by simp)) rfl (Nat.le_refl _) (fun m hm => by cases hm; rfl) (fun h => by cases h) _ w.drawn (by simp)
              · exact (fail_run hm).elim
          · exact (fail_run hm).elim
    | _ => simp only [hu] at hm; exact (fail_run hm).elim
end ops
end Go.Proofs.Ytbebcbcnibfbhaa.Ab
