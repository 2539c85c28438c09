import Derived.Test.YtnkeijebkpjdgaaMLookKeeps4
import Derived.Laws.StructEq
set_option linter.unusedVariables false
set_option linter.unusedSimpArgs false
/- The engine, last text: types whose values are alike cell by cell. -/
namespace Go.Proofs.Ytnkeijebkpjdgaa.Ab
open Go

mutual
/-- The kinds of the cells of a type of whole numbers, bools, texts alone. -/
def flatK (P : Program) : Nat → TypeId → Option (List Nat)
  | 0, _ => none
  | n + 1, t => match P.underlying t with
    | some (.int _) => some [0]
    | some .bool => some [1]
    | some .string => some [2]
    | some (.struct fs) => if P.stoodInHeld t then none else flatFs P n fs.toList 0
    | some (.array len e) => match flatK P n e, szOf P e with
      | some ks, some z => if Nat.beq ks.length z then some (List.replicate len ks).flatten else none
      | _, _ => none
    | _ => none
def flatFs (P : Program) : Nat → List Field → Nat → Option (List Nat)
  | 0, _, _ => none
  | _ + 1, [], _ => some []
  | n + 1, f :: fs, off => if f.name = "_" then none else if Nat.beq f.offset off then match flatK P n f.type, szOf P f.type with
      | some ks, some z => if Nat.beq ks.length z then match flatFs P n fs (off + z) with
        | some r => some (ks ++ r)
        | none => none else none
      | _, _ => none
    else none
end

theorem fitsV_len : ∀ {ks : List Nat} {xs : List Value}, fitsV ks xs = true → xs.length = ks.length
  | [], [], _ => rfl
  | [], _ :: _, h => by simp [fitsV] at h
  | _ :: _, [], h => by simp [fitsV] at h
  | k :: ks, v :: r, h => by
    cases v <;> simp only [fitsV, Bool.false_eq_true, Bool.and_eq_true] at h <;> simp [fitsV_len h.2]
theorem fitsV_app : ∀ {ks js : List Nat} {xs : List Value}, fitsV (ks ++ js) xs = true → fitsV ks (xs.take ks.length) = true ∧ fitsV js (xs.drop ks.length) = true
  | [], js, xs, h => ⟨by simp [fitsV], by simpa using h⟩
  | k :: ks, js, [], h => by simp [fitsV] at h
  | k :: ks, js, v :: r, h => by
    cases v <;> simp only [List.cons_append, fitsV, Bool.false_eq_true, Bool.and_eq_true] at h <;>
      (obtain ⟨h1, h2⟩ := fitsV_app h.2; simp [fitsV, h.1, h1, h2])
theorem same_len : ∀ {xs ys : List Value} {s : Bool}, sameCellsV xs ys = some s → xs.length = ys.length
  | [], [], _, _ => rfl
  | [], _ :: _, _, h => by simp [sameCellsV] at h
  | _ :: _, [], _, h => by simp [sameCellsV] at h
  | a :: x, b :: y, s, h => by
    simp only [sameCellsV] at h
    split at h
    · rename_i h2
      simp [same_len h2]
    · cases h
theorem same_app : ∀ (n : Nat) {xs ys : List Value} {s : Bool}, n ≤ xs.length → sameCellsV xs ys = some s →
    ∃ s1 s2, sameCellsV (xs.take n) (ys.take n) = some s1 ∧ sameCellsV (xs.drop n) (ys.drop n) = some s2 ∧ s = (s1 && s2)
  | 0, xs, ys, s, _, h => ⟨true, s, by simp [sameCellsV], by simpa using h, by simp⟩
  | n + 1, [], _, _, hl, _ => by simp at hl
  | n + 1, _ :: _, [], _, _, h => by simp [sameCellsV] at h
  | n + 1, a :: x, b :: y, s, hl, h => by
    simp only [sameCellsV] at h
    split at h
    · rename_i c d h1 h2
      cases h
      obtain ⟨s1, s2, e1, e2, e3⟩ := same_app n (by simpa using hl) h2
      exact ⟨c && s1, s2, by simp [sameCellsV, h1, e1], by simpa using e2, by simp [e3, Bool.and_assoc]⟩
    · cases h

section
variable {P : Program}
/-- A part of cells, and its likeness. -/
def partsEq (d : Nat) (t : TypeId) (xs ys : Array Value) (o : Nat) : Sem Bool := do Op.equalIn d t (← part t xs o) (← part t ys o)
def EqP (P : Program) (n : Nat) (t : TypeId) (ks : List Nat) : Prop :=
  ∀ (d : Nat) (xs ys : Array Value) (o : Nat) (s : Bool) (w : World), n ≤ d → ks.length ≤ (xs.toList.drop o).length → ks.length ≤ (ys.toList.drop o).length → fitsV ks ((xs.toList.drop o).take ks.length) = true → sameCellsV ((xs.toList.drop o).take ks.length) ((ys.toList.drop o).take ks.length) = some s →
    szOf P t = some ks.length → (partsEq d t xs ys o).run P w = .ok s w
def EqA (P : Program) (n : Nat) (t : TypeId) (ks : List Nat) : Prop :=
  ∀ (d : Nat) (xs ys : List Value) (s : Bool) (w : World), n ≤ d → isAggA P t = some true → fitsV ks xs = true → sameCellsV xs ys = some s → (Op.equalIn d t (.agg xs.toArray) (.agg ys.toArray)).run P w = .ok s w

theorem one_of_take {α : Type} {l : List α} {o : Nat} {v : α} {r : List α} {n : Nat} (h : (l.drop o).take n = v :: r) : l[o]? = some v := by
  have h1 : ((l.drop o).take n)[0]? = some v := by rw [h]; rfl
  rw [List.getElem?_take] at h1
  split at h1
  · rw [List.getElem?_drop] at h1; simpa using h1
  · cases h1

theorem eqP_one {n : Nat} {t : TypeId} {k : Nat} (ha : isAggA P t = some false)
    (he : ∀ (d : Nat) (a b : Value) (s : Bool) (w : World), n ≤ d → fitsV [k] [a] = true → sameCellsV [a] [b] = some s → (Op.equalIn d t a b).run P w = .ok s w) : EqP P n t [k] := by
  intro d xs ys o s w hd hx hy hf hs hz
  have hx1 : 1 ≤ (xs.toList.drop o).length := hx
  have hy1 : 1 ≤ (ys.toList.drop o).length := hy
  obtain ⟨a, r, hxa⟩ : ∃ a r, xs.toList.drop o = a :: r := by
    cases h : xs.toList.drop o with
    | nil => rw [h] at hx1; simp at hx1
    | cons a r => exact ⟨_, _, rfl⟩
  obtain ⟨b, q, hyb⟩ : ∃ b q, ys.toList.drop o = b :: q := by
    cases h : ys.toList.drop o with
    | nil => rw [h] at hy1; simp at hy1
    | cons a r => exact ⟨_, _, rfl⟩
  rw [hxa] at hf hs
  rw [hyb] at hs
  have hf' : fitsV [k] [a] = true := hf
  have hs' : sameCellsV [a] [b] = some s := hs
  have e1 : xs[o]? = some a := by
    have : xs.toList[o]? = some a := one_of_take (n := (xs.toList.drop o).length) (by rw [List.take_length]; exact hxa)
    simpa using this
  have e2 : ys[o]? = some b := by
    have : ys.toList[o]? = some b := one_of_take (n := (ys.toList.drop o).length) (by rw [List.take_length]; exact hyb)
    simpa using this
  simp [partsEq, part, run_isAggA ha, e1, e2, he d a b s w hd hf' hs']

theorem eqP_agg {n : Nat} {t : TypeId} {ks : List Nat} (ha : isAggA P t = some true) (he : EqA P n t ks) : EqP P n t ks := by
  intro d xs ys o s w hd hx hy hf hs hz
  have hex : ∀ zs : Array Value, zs.extract o (o + ks.length) = ((zs.toList.drop o).take ks.length).toArray := by
    intro zs
    apply Array.ext'
    rw [Array.toList_extract, List.extract_eq_drop_take']
    simp [List.drop_take]
  simp only [partsEq, part, Sem.run_bind, run_isAggA ha, Result.andThen_ok, if_true, run_szOf hz, Sem.run_pure, hex]
  exact he d _ _ s w hd ha hf hs

theorem andThen_assoc' {α β γ : Type} (r : Result α) (f : α → World → Result β) (g : β → World → Result γ) : (r.andThen f).andThen g = r.andThen fun a w => (f a w).andThen g := by cases r <;> rfl
def eqElems (d : Nat) (e : TypeId) (n : Nat) (xs ys : Array Value) : List Nat → Sem Bool
  | [] => pure true
  | i :: is => do
    let r ← partsEq d e xs ys (i * n)
    if (!r) = true then pure false else eqElems d e n xs ys is
theorem run_equalIn_array {w : World} {d : Nat} {t e : TypeId} {len n : Nat} {xs ys : Array Value} (ht : P.underlying t = some (.array len e)) (hz : szOf P e = some n) :
    (Op.equalIn (d + 1) t (.agg xs) (.agg ys)).run P w = (eqElems d e n xs ys (List.range' 0 len)).run P w := by
  simp only [Op.equalIn, Sem.run_bind, run_undA ht, Result.andThen_ok, run_szOf hz]
  simp only [Std.Legacy.Range.forIn_eq_forIn_range', Std.Legacy.Range.size, Nat.sub_zero, Nat.add_sub_cancel, Nat.div_one]
  generalize List.range' 0 len = l
  clear ht hz
  induction l generalizing w with
  | nil => simp [eqElems]
  | cons i is ih =>
    simp only [List.forIn_cons, eqElems, partsEq, Sem.run_bind, Sem.run_ite, andThen_assoc']
    generalize (part e xs (i * n)).run P w = r1
    cases r1 with
    | halt x w1 => simp [Result.andThen]
    | ok a w1 =>
      simp only [Result.andThen_ok]
      generalize (part e ys (i * n)).run P w1 = r2
      cases r2 with
      | halt x w2 => simp [Result.andThen]
      | ok b w2 =>
        simp only [Result.andThen_ok]
        generalize (Op.equalIn d e a b).run P w2 = r3
        cases r3 with
        | halt x w3 => simp [Result.andThen]
        | ok r w3 =>
          cases r
          · simp only [Result.andThen_ok, Bool.not_false, if_true, Sem.run_pure]
          · simp only [Result.andThen_ok, Bool.not_true, Bool.false_eq_true, if_false, Sem.run_pure]
            exact ih

theorem run_equalIn_fields {w : World} {d : Nat} {t : TypeId} {fs : Array Field} {xs ys : Array Value} (ht : P.underlying t = some (.struct fs)) (hp : P.stoodInHeld t = false) :
    (Op.equalIn (d + 1) t (.agg xs) (.agg ys)).run P w = (Op.eqFields d xs ys fs.toList).run P w := by
  have h : P.fieldsOf t = fs := by simp [Program.fieldsOf, ht]
  have := run_equalIn_struct (P := P) w d t xs ys (by rw [h]; exact ht) hp
  rw [h] at this
  exact this
theorem eqFields_cons {w : World} {d : Nat} {f : Field} {fs : List Field} {xs ys : Array Value} (h : f.name ≠ "_") :
    (Op.eqFields d xs ys (f :: fs)).run P w = ((partsEq d f.type xs ys f.offset).run P w).andThen fun r w' => (if (!r) = true then pure false else Op.eqFields d xs ys fs : Sem Bool).run P w' := by
  unfold partsEq
  simp only [Op.eqFields, ne_eq, h, not_false_eq_true, if_true, Sem.run_bind, andThen_assoc']

theorem eqElems_run {n d z : Nat} {e : TypeId} {ks : List Nat} (hE : EqP P n e ks) (hz : szOf P e = some z) (hl : ks.length = z) (hnd : n ≤ d) (xs ys : Array Value) (w : World) :
    ∀ (m i : Nat) (s : Bool), fitsV (List.replicate m ks).flatten (xs.toList.drop (i * z)) = true → sameCellsV (xs.toList.drop (i * z)) (ys.toList.drop (i * z)) = some s → (eqElems d e z xs ys (List.range' i m)).run P w = .ok s w := by
  intro m
  induction m with
  | zero =>
    intro i s hf hs
    have h1 := fitsV_len hf
    have h2 := same_len hs
    have hx : xs.toList.drop (i * z) = [] := List.eq_nil_of_length_eq_zero (by simpa using h1)
    have hy : ys.toList.drop (i * z) = [] := List.eq_nil_of_length_eq_zero (by rw [← h2, h1]; simp)
    rw [hx, hy] at hs
    cases hs
    simp [eqElems]
  | succ m ih =>
    intro i s hf hs
    rw [List.replicate_succ, List.flatten_cons] at hf
    have h1 := fitsV_len hf
    rw [List.length_append] at h1
    have h2 := same_len hs
    obtain ⟨f1, f2⟩ := fitsV_app hf
    obtain ⟨s1, s2, e1, e2, e3⟩ := same_app ks.length (by rw [h1]; omega) hs
    have hdd : ∀ l : List Value, (l.drop (i * z)).drop ks.length = l.drop ((i + 1) * z) := by
      intro l
      rw [List.drop_drop, Nat.add_mul, Nat.one_mul, hl]
    rw [hdd] at f2 e2
    rw [hdd] at e2
    have hp : (partsEq d e xs ys (i * z)).run P w = .ok s1 w := hE d xs ys (i * z) s1 w hnd (by rw [h1]; omega) (by rw [← h2, h1]; omega) f1 e1 (by rw [hl]; exact hz)
    rw [List.range'_succ]
    simp only [eqElems, Sem.run_bind, hp, Result.andThen_ok]
    cases s1
    · subst e3; simp
    · rw [Bool.true_and] at e3
      rw [← e3] at e2
      simp only [Bool.not_true, Bool.false_eq_true, if_false]
      exact ih (i + 1) s f2 e2

theorem flat_run (n : Nat) : (∀ (t : TypeId) (ks : List Nat), flatK P n t = some ks → EqP P n t ks ∧ EqA P n t ks) ∧
    (∀ (fs : List Field) (off : Nat) (ks : List Nat), flatFs P n fs off = some ks → ∀ (d : Nat) (xs ys : Array Value) (s : Bool) (w : World), n ≤ d → fitsV ks (xs.toList.drop off) = true → sameCellsV (xs.toList.drop off) (ys.toList.drop off) = some s → (Op.eqFields d xs ys fs).run P w = .ok s w) := by
  induction n with
  | zero => exact ⟨fun t ks h => by simp [flatK] at h, fun fs off ks h => by simp [flatFs] at h⟩
  | succ n ih =>
    refine ⟨fun t ks h => ?_, fun fs off ks h => ?_⟩
    · unfold flatK at h
      split at h
      · rename_i k hu
        cases h
        have ha : isAggA P t = some false := by simp [isAggA, hu]
        refine ⟨eqP_one ha ?_, fun d xs ys s w hd ha' => by rw [ha] at ha'; cases ha'⟩
        intro d a b s w hd hf hs
        obtain ⟨d, rfl⟩ : ∃ d', d = d' + 1 := ⟨d - 1, by omega⟩
        cases a <;> simp [fitsV] at hf
        rename_i k1 x
        cases b <;> simp [sameCellsV, sameCellV] at hs
        rename_i k2 y
        by_cases hk : k1 = k2
        · subst hk
          simp at hs
          rw [run_equalIn_int w d t k1 k x y hu, ← hs]
        · simp [hk] at hs
      · rename_i hu
        cases h
        have ha : isAggA P t = some false := by simp [isAggA, hu]
        refine ⟨eqP_one ha ?_, fun d xs ys s w hd ha' => by rw [ha] at ha'; cases ha'⟩
        intro d a b s w hd hf hs
        obtain ⟨d, rfl⟩ : ∃ d', d = d' + 1 := ⟨d - 1, by omega⟩
        cases a <;> simp [fitsV] at hf
        cases b <;> simp [sameCellsV, sameCellV] at hs
        rw [run_equalIn_bool' w d t _ _ hu, ← hs]
      · rename_i hu
        cases h
        have ha : isAggA P t = some false := by simp [isAggA, hu]
        refine ⟨eqP_one ha ?_, fun d xs ys s w hd ha' => by rw [ha] at ha'; cases ha'⟩
        intro d a b s w hd hf hs
        obtain ⟨d, rfl⟩ : ∃ d', d = d' + 1 := ⟨d - 1, by omega⟩
        cases a <;> simp [fitsV] at hf
        cases b <;> simp [sameCellsV, sameCellV] at hs
        rw [run_equalIn_string w d t _ _ hu, ← hs, beq_toListBytes]
      · rename_i fs hu
        split at h
        · cases h
        · rename_i hp
          have hp : P.stoodInHeld t = false := by simpa using hp
          have hA : EqA P (n + 1) t ks := by
            intro d xs ys s w hd _ hf hs
            obtain ⟨d, rfl⟩ : ∃ d', d = d' + 1 := ⟨d - 1, by omega⟩
            rw [run_equalIn_fields hu hp]
            exact ih.2 fs.toList 0 ks h d _ _ s w (by omega) (by simpa using hf) (by simpa using hs)
          exact ⟨eqP_agg (by simp [isAggA, hu]) hA, hA⟩
      · rename_i len e hu
        split at h
        · rename_i ks' z hk hz
          split at h
          · rename_i hl
            cases h
            have hA : EqA P (n + 1) t (List.replicate len ks').flatten := by
              intro d xs ys s w hd _ hf hs
              obtain ⟨d, rfl⟩ : ∃ d', d = d' + 1 := ⟨d - 1, by omega⟩
              rw [run_equalIn_array hu hz]
              exact eqElems_run (ih.1 e ks' hk).1 hz (Nat.eq_of_beq_eq_true hl) (by omega) _ _ w len 0 s (by simpa using hf) (by simpa using hs)
            exact ⟨eqP_agg (by simp [isAggA, hu]) hA, hA⟩
          · cases h
        · cases h
      · cases h
    · cases fs with
      | nil =>
        simp only [flatFs] at h
        cases h
        intro d xs ys s w hd hf hs
        have h1 := fitsV_len hf
        have h2 := same_len hs
        have hx : xs.toList.drop off = [] := List.eq_nil_of_length_eq_zero (by simpa using h1)
        have hy : ys.toList.drop off = [] := List.eq_nil_of_length_eq_zero (by rw [← h2, h1]; simp)
        rw [hx, hy] at hs
        cases hs
        simp [Op.eqFields]
      | cons f fs =>
        simp only [flatFs] at h
        split at h
        · cases h
        · rename_i hname
          split at h
          · rename_i hoff
            split at h
            · rename_i ks1 z hk hz
              split at h
              · rename_i hl
                split at h
                · rename_i r hr
                  cases h
                  intro d xs ys s w hd hf hs
                  have h1 := fitsV_len hf
                  rw [List.length_append] at h1
                  have h2 := same_len hs
                  obtain ⟨f1, f2⟩ := fitsV_app hf
                  obtain ⟨s1, s2, e1, e2, e3⟩ := same_app ks1.length (by rw [h1]; omega) hs
                  have hz' := Nat.eq_of_beq_eq_true hl
                  have ho := Nat.eq_of_beq_eq_true hoff
                  have hdd : ∀ l : List Value, (l.drop off).drop ks1.length = l.drop (off + z) := by
                    intro l
                    rw [List.drop_drop, hz']
                  rw [hdd] at f2 e2
                  rw [hdd] at e2
                  have hp : (partsEq d f.type xs ys f.offset).run P w = .ok s1 w := by
                    rw [ho]
                    exact (ih.1 f.type ks1 hk).1 d xs ys off s1 w (by omega) (by rw [h1]; omega) (by rw [← h2, h1]; omega) f1 e1 (by rw [hz']; exact hz)
                  rw [eqFields_cons hname, hp, Result.andThen_ok]
                  cases s1
                  · subst e3; simp
                  · rw [Bool.true_and] at e3
                    rw [← e3] at e2
                    simp only [Bool.not_true, Bool.false_eq_true, if_false]
                    exact ih.2 fs (off + z) r hr d xs ys s w (by omega) f2 e2
                · cases h
              · cases h
            · cases h
          · cases h

theorem flatTy_of {n : Nat} {t : TypeId} {ks : List Nat} (hn : n ≤ 10000) (hk : flatK P n t = some ks) (ha : isAggA P t = some true) (hg : P.eqGuardType P.depth t = false) : FlatTy P t ks := by
  intro xs ys s w op x y hf hs _
  exact ⟨run_eqGuard_agg w op t x y _ _ hg, ((flat_run n).1 t ks hk).2 10000 xs ys s w hn ha hf hs⟩
/-- A table of such types. -/
def flatOk (P : Program) : List (Nat × List Nat) → Bool
  | [] => true
  | (t, ks) :: r => (match flatK P 40 t with
    | some js => decide (js = ks)
    | none => false) && (match isAggA P t with
    | some b => b
    | none => false) && !P.eqGuardType P.depth t && flatOk P r
def flatL (t : Nat) : List (Nat × List Nat) → Option (List Nat)
  | [] => none
  | (u, ks) :: r => bif Nat.beq u t then some ks else flatL t r
theorem flatL_ok {t : Nat} {ks : List Nat} : ∀ {l : List (Nat × List Nat)}, flatOk P l = true → flatL t l = some ks → FlatTy P t ks
  | [], _, h => by cases h
  | (u, js) :: r, ho, h => by
    simp only [flatOk, Bool.and_eq_true] at ho
    simp only [flatL] at h
    cases hb : Nat.beq u t with
    | false => rw [hb] at h; exact flatL_ok ho.2 h
    | true =>
      rw [hb] at h
      cases h
      have := Nat.eq_of_beq_eq_true hb
      subst this
      obtain ⟨⟨⟨h1, h2⟩, h3⟩, -⟩ := ho
      refine flatTy_of (n := 40) (by decide) ?_ ?_ (by simpa using h3)
      · split at h1
        · rename_i js' hj; rw [hj, of_decide_eq_true h1]
        · cases h1
      · split at h2
        · rename_i b hb'; rw [hb', h2]
        · cases h2
end
end Go.Proofs.Ytnkeijebkpjdgaa.Ab
