import Derived.Test.YtnkeijebkpjdgaaMLookKeeps11
import Derived.Deep.Slices
import Derived.ChangeArms
import Derived.OpenShut
import Derived.SizedLaws
import Derived.WideShapes
import Derived.Test.YtnkeijebkpjdgaaMLookKeeps13
set_option linter.unusedVariables false
set_option linter.unusedSimpArgs false
/- The engine, twenty-fifth text: what comes as an argument is a value of the abstract machine. -/
namespace Go.Proofs.Ytnkeijebkpjdgaa.Ab
open Go Go.RowKit

/-- The types of arguments. -/
inductive Ty where
  | int (k : IntKind)
  | bool
  | str
  | sl (B : Nat) (e : Ty)
  | seq (l : List Ty)
mutual
def Ty.sz : Ty → Nat
  | .seq l => tySzs l
  | _ => 1
def tySzs : List Ty → Nat
  | [] => 0
  | t :: l => t.sz + tySzs l
end
mutual
/-- What is known of the cells of such a type. -/
def Sh : Ty → List AV → Prop
  | .int k, as_ => ∃ n, as_ = [.int k n] ∧ (Lit.int k n).wf = true
  | .bool, as_ => ∃ b, as_ = [.bool b]
  | .str, as_ => ∃ s, as_ = [.str s] ∧ s.length ≤ 140737488351232
  | .sl B e, as_ => as_ = [.sl0] ∨ ∃ (rows : List (List AV)) (t : Bool), as_ = [.sl rows.flatten rows.length t] ∧ (∀ r ∈ rows, Sh e r) ∧ rows.length * B ≤ 140737488351232 ∧ rows.length ≤ 9223372036854775807
  | .seq l, as_ => ShL l as_
def ShL : List Ty → List AV → Prop
  | [], as_ => as_ = []
  | t :: l, as_ => ∃ a b, as_ = a ++ b ∧ Sh t a ∧ ShL l b
end
mutual
theorem Sh.one : ∀ (t : Ty) (as_ : List AV), Sh t as_ → oneL as_ = true
  | .int k, as_, h => by obtain ⟨n, rfl, _⟩ := h; rfl
  | .bool, as_, h => by obtain ⟨b, rfl⟩ := h; rfl
  | .str, as_, h => by obtain ⟨s, rfl, _⟩ := h; rfl
  | .sl B e, as_, h => by
    unfold Sh at h
    rcases h with rfl | ⟨rows, t, rfl, _⟩ <;> rfl
  | .seq l, as_, h => by
    unfold Sh at h
    exact ShL.one l as_ h
theorem ShL.one : ∀ (l : List Ty) (as_ : List AV), ShL l as_ → oneL as_ = true
  | [], as_, h => by unfold ShL at h; subst h; rfl
  | t :: l, as_, h => by
    unfold ShL at h
    obtain ⟨a, b, rfl, h1, h2⟩ := h
    have e : ∀ (a b : List AV), oneL a = true → oneL b = true → oneL (a ++ b) = true := by
      intro a b ha hb
      induction a with
      | nil => exact hb
      | cons x a ih =>
        simp only [oneL, Bool.and_eq_true, List.cons_append] at ha ⊢
        exact ⟨ha.1, ih ha.2⟩
    exact e a b (Sh.one t a h1) (ShL.one l b h2)
end

/-- Which of these a type of the program is. -/
def tyFs (ty : TypeId → Option Ty) (P : Program) : Nat → List Field → Option (List Ty)
  | _, [] => some []
  | off, f :: r => if f.offset = off then match ty f.type with
    | some t => if P.cellsOf f.type = t.sz then (tyFs ty P (off + t.sz) r).map (t :: ·) else none
    | none => none
    else none
def tyOf (P : Program) : Nat → TypeId → Option Ty
  | 0, _ => none
  | n + 1, t => match P.underlying t with
    | some (.int k) => some (.int k)
    | some .bool => some .bool
    | some .string => some .str
    | some (.slice e) => match tyOf P n e with
      | some te => if P.cellsOf e = te.sz ∧ 0 < te.sz then some (.sl (P.bytesOf e) te) else none
      | none => none
    | some (.struct fs) => match tyFs (tyOf P n) P 0 fs.toList with
      | some l => if P.cellsOf t = tySzs l then some (.seq l) else none
      | none => none
    | some (.array m e) => match tyOf P n e with
      | some te => if P.cellsOf e = te.sz ∧ P.cellsOf t = tySzs (List.replicate m te) then some (.seq (List.replicate m te)) else none
      | none => none
    | _ => none

section
variable {H : Type} {enc : TypeId × Value → H} {P : Program} {W : World} {held : Bool}
abbrev below (W : World) : Nat → Prop := fun c => c < W.heap.size
def OpensA (P : Program) (H : Type) (enc : TypeId × Value → H) (W : World) (held : Bool) (t : TypeId) (ty : Ty) : Prop :=
  ∀ (fuel : Nat) (cs : List Value) (x : DataW H × List MemPlace), DataW.trod enc P W 0 (fun _ => true) held fuel t cs = some x → (∀ n ∈ x.1.weights P t, n ≤ reachBytes) → ∃ as_, RepPL (below W) W.heap as_ cs ∧ Sh ty as_
theorem weights_all {e : TypeId} : ∀ (l : List (DataW H)) (y : DataW H), y ∈ l → ∀ n ∈ y.weights P e, n ∈ DataW.weightsAll P e l := by
  intro l
  induction l with
  | nil => intro y hy; cases hy
  | cons z l ih =>
    intro y hy n hn
    rw [DataW.weightsAll]
    rcases List.mem_cons.1 hy with rfl | hy
    · exact List.mem_append_left _ hn
    · exact List.mem_append_right _ (ih y hy n hn)
theorem rep_one {I : Nat → Prop} {hp : Array Obj} {as_ : List AV} {us : List Value} (h : RepPL I hp as_ us) (ho : oneL as_ = true) : ∀ (j : Nat) (u : Value), us[j]? = some u → u.oneCell' = true :=
  oneL_one (K := { I := I, β := id, κ := id }) (bs := []) (.of_clean h) ho
theorem rep_flat {I : Nat → Prop} {hp : Array Obj} : ∀ (rows : List (List AV)) (vs : List (List Value)), rows.length = vs.length → (∀ (i : Nat) (r : List AV) (v : List Value), rows[i]? = some r → vs[i]? = some v → RepPL I hp r v) → RepPL I hp rows.flatten vs.flatten
  | [], [], _, _ => .nil
  | [], _ :: _, h, _ => by simp at h
  | _ :: _, [], h, _ => by simp at h
  | r :: rows, v :: vs, h, hr => by
    simp only [List.flatten_cons]
    exact (hr 0 r v rfl rfl).app (rep_flat rows vs (by simpa using h) fun i r v h1 h2 => hr (i + 1) r v (by simpa using h1) (by simpa using h2))
theorem flat_get {n : Nat} {vs : List (List Value)} (hl : ∀ v ∈ vs, v.length = n) {j : Nat} {u : Value} (h : vs.flatten[j]? = some u) : ∃ i k v, vs[i]? = some v ∧ k < n ∧ j = i * n + k ∧ v[k]? = some u := by
  induction vs generalizing j with
  | nil => simp at h
  | cons v vs ih =>
    rw [List.flatten_cons, List.getElem?_append] at h
    have hv := hl v (List.mem_cons_self ..)
    split at h
    · rename_i hj
      exact ⟨0, j, v, rfl, by omega, by omega, h⟩
    · obtain ⟨i, k, v', h1, h2, h3, h4⟩ := ih (fun v hv => hl v (List.mem_cons_of_mem _ hv)) h
      refine ⟨i + 1, k, v', by simpa using h1, h2, ?_, h4⟩
      rw [Nat.add_mul]
      omega
theorem opens_sl {t e : TypeId} {te : Ty} (ht : P.underlying t = some (.slice e)) (hc : P.cellsOf e = te.sz) (hpos : 0 < te.sz) (hd : OpensA P H enc W held e te) : OpensA P H enc W held t (.sl (P.bytesOf e) te) := by
  intro fuel cs x h hw
  rcases Go.Deep.open_slice ht h with ⟨rfl, rfl⟩ | ⟨a, len, cap, m, n, D, Pl, rfl, hb, hl, hm, hmm, rfl, hx⟩
  · refine ⟨[.sl0], .cons .sl0 .nil, ?_⟩
    unfold Sh
    exact .inl rfl
  · simp only [if_true] at hmm
    subst hmm
    have hall : ∀ n ∈ DataW.weightsAll P e ((List.range len).map D), n ≤ reachBytes := by
      intro q hq
      refine hw q ?_
      simp only [DataW.weights, ht]
      exact List.mem_cons_of_mem _ (List.mem_append_left _ hq)
    have each : ∀ i, i < len → ∃ q : List AV × List Value, W.cells? 0 (a.add (i * P.cellsOf e)) (P.cellsOf e) = some q.2 ∧ RepPL (below W) W.heap q.1 q.2 ∧ Sh te q.1 := by
      intro i hi
      obtain ⟨cs', h1, h2⟩ := hx i (by omega)
      obtain ⟨as_, hv, ho⟩ := hd n cs' _ h2 (fun q hq => hall q (weights_all _ (D i) (List.mem_map.2 ⟨i, List.mem_range.2 hi, rfl⟩) q hq))
      exact ⟨(as_, cs'), h1, hv, ho⟩
    obtain ⟨f, hf⟩ := Go.Deep.choose_lt each
    have hrows : ((List.range len).map fun i => (f i).1).length = len := by simp
    have hvals : ((List.range len).map fun i => (f i).2).length = len := by simp
    have hz := hw ((((List.range len).map D).length + ((List.range (m - len)).map fun j => D (len + j)).length) * P.bytesOf e) (by simp only [DataW.weights, ht]; exact List.mem_cons_self ..)
    simp only [List.length_map, List.length_range] at hz
    have hget : ∀ (i : Nat) (v : List Value), ((List.range len).map fun i => (f i).2)[i]? = some v → i < len ∧ v = (f i).2 := by
      intro i v hv
      rw [List.getElem?_map] at hv
      obtain ⟨j, hj, rfl⟩ := Option.map_eq_some_iff.1 hv
      have hlt := (List.getElem?_eq_some_iff.1 hj).1
      rw [List.length_range] at hlt
      rw [List.getElem?_range hlt] at hj
      cases hj
      exact ⟨hlt, rfl⟩
    have hvl : ∀ v ∈ (List.range len).map fun i => (f i).2, v.length = te.sz := by
      intro v hv
      obtain ⟨i, hi, rfl⟩ := List.mem_map.1 hv
      obtain ⟨_, h3, _⟩ := World.cells?_some (hf i (List.mem_range.1 hi)).1
      rw [h3, hc]
    have hrep : RepPL (below W) W.heap ((List.range len).map fun i => (f i).1).flatten ((List.range len).map fun i => (f i).2).flatten := by
      refine rep_flat _ _ (by rw [hrows, hvals]) fun i r v h1 h2 => ?_
      obtain ⟨hlt, rfl⟩ := hget i v h2
      rw [List.getElem?_map, List.getElem?_range hlt] at h1
      cases h1
      exact (hf i hlt).2.1
    have hone : oneL ((List.range len).map fun i => (f i).1).flatten = true := by
      have : ∀ rows : List (List AV), (∀ r ∈ rows, oneL r = true) → oneL rows.flatten = true := by
        intro rows
        induction rows with
        | nil => intros; rfl
        | cons r rows ih =>
          intro h
          rw [List.flatten_cons]
          have h1 := h r (List.mem_cons_self ..)
          have h2 := ih fun r hr => h r (List.mem_cons_of_mem _ hr)
          clear ih h
          induction r with
          | nil => exact h2
          | cons x r ih =>
            simp only [oneL, Bool.and_eq_true, List.cons_append] at h1 ⊢
            exact ⟨h1.1, ih h1.2⟩
      refine this _ fun r hr => ?_
      obtain ⟨i, hi, rfl⟩ := List.mem_map.1 hr
      exact Sh.one te _ (hf i (List.mem_range.1 hi)).2.2
    -- where the cells lie
    have hcell : ∀ (j : Nat) (u : Value), ((List.range len).map fun i => (f i).2).flatten[j]? = some u → W.cell? (a.add j) = some u := by
      intro j u hu
      obtain ⟨i, k, v, h1, h2, h3, h4⟩ := flat_get hvl hu
      obtain ⟨hlt, rfl⟩ := hget i v h1
      obtain ⟨_, _, h5⟩ := World.cells?_some (hf i hlt).1
      have h6 := h5 k (by omega)
      rw [Go.Deep.add_add, hc, ← h3, h4] at h6
      exact h6
    refine ⟨[.sl ((List.range len).map fun i => (f i).1).flatten ((List.range len).map fun i => (f i).1).length (decide (m = len))], .cons ?_ .nil, ?_⟩
    · rw [hrows]
      obtain ⟨ab, ao, asp⟩ := a
      have hsp : asp = none ∨ ((List.range len).map fun i => (f i).2).flatten = [] := by
        cases hv : ((List.range len).map fun i => (f i).2).flatten with
        | nil => exact .inr rfl
        | cons u us =>
          have := hcell 0 u (by rw [hv]; rfl)
          unfold Addr.add at this
          rw [if_pos rfl] at this
          unfold World.cell? at this
          simp only at this
          split at this
          · split at this
            · cases this
            · rename_i h
              cases asp with
              | none => exact .inl rfl
              | some _ => simp at h
          · cases this
      have hcap : asp = none ∨ m = 0 := by
        cases asp with
        | none => exact .inl rfl
        | some sp =>
          refine .inr ?_
          -- the spare elements are read, too
          rcases Nat.eq_zero_or_pos m with h0 | h0
          · exact h0
          · exfalso
            obtain ⟨cs', h1, h2⟩ := hx 0 h0
            obtain ⟨_, h3, h4⟩ := World.cells?_some h1
            have h5 := h4 0 (by omega)
            rw [List.getElem?_eq_getElem (by omega), Nat.zero_mul] at h5
            unfold Addr.add World.cell? at h5
            simp only [if_true] at h5
            split at h5
            · simp at h5
            · cases h5
      refine .sl hl (fun h => of_decide_eq_true h) ?_ (us := ((List.range len).map fun i => (f i).2).flatten) (fun i u hu => ⟨?_, rep_one hrep hone i u hu⟩) hrep hcap
      · cases hv : ((List.range len).map fun i => (f i).2).flatten with
        | nil =>
          rw [hv] at hrep
          cases hr : ((List.range len).map fun i => (f i).1).flatten with
          | nil => exact .inl rfl
          | cons x l => rw [hr] at hrep; cases hrep
        | cons u us =>
          have := hcell 0 u (by rw [hv]; rfl)
          refine .inr ?_
          unfold World.cell? Addr.add at this
          rw [if_pos rfl] at this
          simp only at this
          split at this
          · rename_i c e' f' hb
            exact (Array.getElem?_eq_some_iff.1 hb).1
          · cases this
      · have h7 := hcell i u hu
        rcases hsp with rfl | hnil
        · rw [add_addr, cell_eq] at h7
          exact h7
        · rw [hnil] at hu
          simp at hu
    · unfold Sh
      refine .inr ⟨_, _, rfl, fun r hr => ?_, ?_, ?_⟩
      · obtain ⟨i, hi, rfl⟩ := List.mem_map.1 hr
        exact (hf i (List.mem_range.1 hi)).2.2
      · rw [hrows]
        have h6 : len * P.bytesOf e ≤ (len + (m - len)) * P.bytesOf e := Nat.mul_le_mul_right _ (by omega)
        exact Nat.le_trans h6 hz
      · rw [hrows]; simp only [maxLen] at hm; omega
theorem opens_fs {ty : TypeId → Option Ty} (hty : ∀ t t', ty t = some t' → OpensA P H enc W held t t') {n : Nat} {cs : List Value} : ∀ (fs : List Field) (off : Nat) (l : List Ty) (xs : List (DataW H × List MemPlace)), tyFs ty P off fs = some l →
    (∀ (i : Nat) (f : Field), fs[i]? = some f → DataW.trod enc P W 0 (fun _ => true) held n f.type ((cs.drop f.offset).take (P.cellsOf f.type)) = xs[i]?) → fs.length = xs.length →
    (∀ (i : Nat) (f : Field) (x : DataW H × List MemPlace), fs[i]? = some f → xs[i]? = some x → ∀ q ∈ x.1.weights P f.type, q ≤ reachBytes) → (cs.drop off).length = tySzs l → ∃ as_, RepPL (below W) W.heap as_ (cs.drop off) ∧ ShL l as_
  | [], off, l, xs, h, _, _, _, hl => by
    unfold tyFs at h
    cases h
    have : cs.drop off = [] := List.eq_nil_of_length_eq_zero hl
    rw [this]
    exact ⟨[], .nil, by unfold ShL; rfl⟩
  | f :: r, off, l, xs, h, hx, hlen, hw, hl => by
    unfold tyFs at h
    split at h
    · rename_i hoff
      split at h
      · rename_i t ht
        split at h
        · rename_i hc
          obtain ⟨l', h1, rfl⟩ := Option.map_eq_some_iff.1 h
          unfold tySzs at hl
          cases xs with
          | nil => simp at hlen
          | cons x xs =>
            have hx0 := hx 0 f rfl
            rw [hoff] at hx0
            obtain ⟨a, ha, hs⟩ := hty f.type t ht n _ x hx0 (hw 0 f x rfl rfl)
            have hdrop : cs.drop (off + t.sz) = (cs.drop off).drop t.sz := by rw [List.drop_drop]
            obtain ⟨b, hb, hsb⟩ := opens_fs hty r (off + t.sz) l' xs h1 (fun i g hg => by simpa using hx (i + 1) g (by simpa using hg)) (by simpa using hlen) (fun i g y hg hy => hw (i + 1) g y (by simpa using hg) (by simpa using hy)) (by rw [hdrop, List.length_drop]; omega)
            refine ⟨a ++ b, ?_, ?_⟩
            · have := ha.app hb
              rwa [hdrop, hc, List.take_append_drop] at this
            · unfold ShL
              exact ⟨a, b, rfl, hs, hsb⟩
        · cases h
      · cases h
    · cases h
theorem opens_rep {e : TypeId} {t : Ty} (ht : OpensA P H enc W held e t) (hc : P.cellsOf e = t.sz) {n : Nat} {cs : List Value} : ∀ (m k : Nat) (xs : List (DataW H × List MemPlace)),
    (∀ (i : Nat), i < m → DataW.trod enc P W 0 (fun _ => true) held n e ((cs.drop ((k + i) * P.cellsOf e)).take (P.cellsOf e)) = xs[i]?) → xs.length = m →
    (∀ x ∈ xs, ∀ q ∈ x.1.weights P e, q ≤ reachBytes) → (cs.drop (k * t.sz)).length = tySzs (List.replicate m t) → ∃ as_, RepPL (below W) W.heap as_ (cs.drop (k * t.sz)) ∧ ShL (List.replicate m t) as_
  | 0, k, xs, _, _, _, hl => by
    have : cs.drop (k * t.sz) = [] := List.eq_nil_of_length_eq_zero hl
    rw [this]
    exact ⟨[], .nil, by unfold ShL; rfl⟩
  | m + 1, k, xs, hx, hlen, hw, hl => by
    rw [List.replicate_succ] at hl ⊢
    unfold tySzs at hl
    cases xs with
    | nil => simp at hlen
    | cons x xs =>
      have hx0 := hx 0 (by omega)
      rw [Nat.add_zero] at hx0
      obtain ⟨a, ha, hs⟩ := ht n _ x hx0 (hw x (List.mem_cons_self ..))
      have hdrop : cs.drop ((k + 1) * t.sz) = (cs.drop (k * t.sz)).drop t.sz := by rw [List.drop_drop, Nat.add_mul, Nat.one_mul]
      obtain ⟨b, hb, hsb⟩ := opens_rep ht hc m (k + 1) xs (fun i hi => by
        have := hx (i + 1) (by omega)
        rw [show k + 1 + i = k + (i + 1) by omega]
        simpa using this) (by simpa using hlen) (fun y hy => hw y (List.mem_cons_of_mem _ hy)) (by rw [hdrop, List.length_drop]; omega)
      refine ⟨a ++ b, ?_, ?_⟩
      · have := ha.app hb
        rwa [hdrop, hc, List.take_append_drop] at this
      · unfold ShL
        exact ⟨a, b, rfl, hs, hsb⟩
/-- Whatever reads as data of a type is such a value. -/
theorem opens_ty : ∀ (n : Nat) (t : TypeId) (ty : Ty), tyOf P n t = some ty → OpensA P H enc W held t ty
  | 0, _, _, h => by cases h
  | n + 1, t, ty, h => by
    unfold tyOf at h
    split at h
    · rename_i k ht
      cases h
      intro fuel cs x hx _
      obtain ⟨m, rfl, _, hw⟩ := DataW.trod_int ht hx
      exact ⟨[.int k m], .cons (.int _ _) .nil, by unfold Sh; exact ⟨m, rfl, hw⟩⟩
    · rename_i ht
      cases h
      intro fuel cs x hx _
      obtain ⟨b, rfl, _⟩ := DataW.trod_bool ht hx
      exact ⟨[.bool b], .cons (.bool _) .nil, by unfold Sh; exact ⟨b, rfl⟩⟩
    · rename_i ht
      cases h
      intro fuel cs x hx hw
      obtain ⟨s, rfl, rfl, _⟩ := DataW.trod_string ht hx
      refine ⟨[.str s.data.toList], .cons (.str _) .nil, by
        unfold Sh
        exact ⟨_, rfl, hw _ (by simp [DataW.weights])⟩⟩
    · rename_i e ht
      split at h
      · rename_i te he
        split at h
        · rename_i hc
          cases h
          exact opens_sl ht hc.1 hc.2 (opens_ty n e te he)
        · cases h
      · cases h
    · rename_i fs ht
      split at h
      · rename_i l hl
        split at h
        · rename_i hc
          cases h
          intro fuel cs x hx hw
          obtain ⟨xs, m, _, rfl, hlen, hfl, hF⟩ := DataW.trod_struct ht hx
          obtain ⟨as_, h1, h2⟩ := opens_fs (fun t t' => opens_ty n t t') fs.toList 0 l xs hl (fun i f hf => hF i f (by simpa using hf)) (by simpa using hfl.symm) (fun i f y hf hy q hq => hw q (by
            simp only [DataW.weights, ht]
            exact DataW.weights_mem_each (j := i) (t := f.type) (d := y.1) (by rw [List.getElem?_map, hf]; rfl) (by rw [List.getElem?_map, hy]; rfl) q hq)) (by simpa [hlen] using hc)
          exact ⟨as_, by simpa using h1, by unfold Sh; exact h2⟩
        · cases h
      · cases h
    · rename_i m e ht
      split at h
      · rename_i te he
        split at h
        · rename_i hc
          cases h
          intro fuel cs x hx hw
          obtain ⟨xs, j, _, rfl, hlen, hxl, hF⟩ := DataW.trod_array ht hx
          obtain ⟨as_, h1, h2⟩ := opens_rep (opens_ty n e te he) hc.1 m 0 xs (fun i hi => by rw [Nat.zero_add]; exact hF i hi) hxl (fun y hy q hq => hw q (by
            simp only [DataW.weights, ht]
            exact weights_all _ y.1 (List.mem_map.2 ⟨y, hy, rfl⟩) q hq)) (by simpa [hlen] using hc.2)
          exact ⟨as_, by simpa using h1, by unfold Sh; exact h2⟩
        · cases h
      · cases h
    · cases h
end
/-- An argument of the row: a struct. -/
theorem open_struct {H : Type} {enc : TypeId × Value → H} {P : Program} {W : World} {b0 : Nat} {t : TypeId} {fs : Array Field} {l : List Ty} {v : Value} {d : DataW H} {p : List MemPlace} {n : Nat} (ht : P.underlying t = some (.struct fs)) (hty : tyOf P n t = some (.seq l))
    (hv : Value.okWide P W .any b0 t v) (h : DataW.Trod enc P W 0 (fun _ => true) true t v d p) (hw : ∀ n ∈ d.weights P t, n ≤ reachBytes) : ∃ as_, RepP (below W) W.heap (.agg as_) v ∧ ShL l as_ := by
  obtain ⟨cs, rfl, _⟩ := Go.WideShapes.okWide_struct ht hv
  obtain ⟨fuel, hf⟩ := h
  obtain ⟨as_, h1, h2⟩ := opens_ty n t _ hty fuel _ _ hf hw
  unfold Sh at h2
  exact ⟨as_, .agg h1, h2⟩
end Go.Proofs.Ytnkeijebkpjdgaa.Ab
/- Over the engine, second text: trees; access. -/
namespace Go.Proofs.Ytnkeijebkpjdgaa.Ab
open Go Go.RowKit

/-- Whole numbers in a row. -/
def numsA (k : IntKind) (l : List Int) : List AV := l.map (AV.int k)
/-- A row of numbers that nobody writes. -/
def rowOk (k : IntKind) (v : AV) (l : List Int) : Prop := (v = .sl0 ∧ l = []) ∨ ∃ t, v = .sl (numsA k l) l.length t
/-- An entry of a directory. -/
structure EntryS where
  name : List UInt8
  node : Int
  cookie : Int
def entryA (e : EntryS) : List AV := [.str e.name, .int .i64 e.node, .int .u64 e.cookie]
def entriesA (l : List EntryS) : List AV := (l.map entryA).flatten
def entsOk (v : AV) (l : List EntryS) : Prop := (v = .sl0 ∧ l = []) ∨ ∃ t, v = .sl (entriesA l) l.length t
/-- A node of a tree, as it stands in cells. -/
structure NodeS where
  kind : Int
  gen : Int
  mode : Int
  user : Int
  group : Int
  links : Int
  rs : Int
  rn : Int
  ws : Int
  wn : Int
  ts : Int
  tn : Int
  data : AV
  bytes : List Int
  verf : Nat → Int
  target : List UInt8
  list : AV
  ents : List EntryS
  parent : Int
  next : Int
def nodeA (x : NodeS) : List AV := [.int .u32 x.kind, .int .u32 x.gen, .int .u32 x.mode, .int .u32 x.user, .int .u32 x.group, .int .i64 x.links, .int .u32 x.rs, .int .u32 x.rn, .int .u32 x.ws, .int .u32 x.wn, .int .u32 x.ts, .int .u32 x.tn, x.data,
  .int .u8 (x.verf 0), .int .u8 (x.verf 1), .int .u8 (x.verf 2), .int .u8 (x.verf 3), .int .u8 (x.verf 4), .int .u8 (x.verf 5), .int .u8 (x.verf 6), .int .u8 (x.verf 7), .str x.target, x.list, .int .i64 x.parent, .int .u64 x.next]
/-! Rows of so many cells each. -/
theorem rows_len {α : Type} {f : α → List AV} {z : Nat} (hf : ∀ x, (f x).length = z) : ∀ l : List α, (l.map f).flatten.length = l.length * z
  | [] => by simp
  | x :: l => by
    rw [List.map_cons, List.flatten_cons, List.length_append, hf, rows_len hf l, List.length_cons, Nat.add_mul]
    omega
theorem rows_drop {α : Type} {f : α → List AV} {z : Nat} (hf : ∀ x, (f x).length = z) : ∀ (l : List α) (i : Nat) (x : α), l[i]? = some x → ∃ r, (l.map f).flatten.drop (i * z) = f x ++ r
  | [], i, x, h => by simp at h
  | y :: l, 0, x, h => by
    simp at h
    subst h
    exact ⟨(l.map f).flatten, by simp⟩
  | y :: l, i + 1, x, h => by
    simp at h
    obtain ⟨r, hr⟩ := rows_drop hf l i x h
    refine ⟨r, ?_⟩
    rw [List.map_cons, List.flatten_cons, show (i + 1) * z = (f y).length + i * z by rw [hf, Nat.add_mul]; omega, ← List.drop_drop, List.drop_left]
    exact hr
theorem rows_row {α : Type} {f : α → List AV} {z : Nat} (hf : ∀ x, (f x).length = z) {l : List α} {i : Nat} {x : α} (h : l[i]? = some x) : ((l.map f).flatten.drop (i * z)).take z = f x := by
  obtain ⟨r, hr⟩ := rows_drop hf l i x h
  rw [hr]
  exact List.take_left' (hf x)
theorem rows_cell {α : Type} {f : α → List AV} {z : Nat} (hf : ∀ x, (f x).length = z) {l : List α} {i : Nat} {x : α} (h : l[i]? = some x) (k : Nat) (hk : k < z) : (l.map f).flatten[i * z + k]? = (f x)[k]? := by
  obtain ⟨r, hr⟩ := rows_drop hf l i x h
  rw [← List.getElem?_drop, hr, List.getElem?_append_left (by rw [hf]; exact hk)]
def nodesA (l : List NodeS) : List AV := (l.map nodeA).flatten
theorem nodeA_len (x : NodeS) : (nodeA x).length = 25 := rfl
theorem entryA_len (x : EntryS) : (entryA x).length = 3 := rfl
theorem nodesA_len (l : List NodeS) : (nodesA l).length = l.length * 25 := rows_len nodeA_len l
theorem nodesA_node {l : List NodeS} {i : Nat} {x : NodeS} (h : l[i]? = some x) : ((nodesA l).drop (i * 25)).take 25 = nodeA x := rows_row nodeA_len h
theorem nodesA_cell {l : List NodeS} {i : Nat} {x : NodeS} (h : l[i]? = some x) (k : Nat) (hk : k < 25) : (nodesA l)[i * 25 + k]? = (nodeA x)[k]? := rows_cell nodeA_len h k hk
theorem entriesA_len (l : List EntryS) : (entriesA l).length = l.length * 3 := rows_len entryA_len l
theorem entriesA_cell {l : List EntryS} {i : Nat} {x : EntryS} (h : l[i]? = some x) (k : Nat) (hk : k < 3) : (entriesA l)[i * 3 + k]? = (entryA x)[k]? := rows_cell entryA_len h k hk
theorem entriesA_entry {l : List EntryS} {i : Nat} {x : EntryS} (h : l[i]? = some x) : ((entriesA l).drop (i * 3)).take 3 = entryA x := rows_row entryA_len h

def NodeS.ok (x : NodeS) : Prop := rowOk .u8 x.data x.bytes ∧ entsOk x.list x.ents
/-- What is known of a node that came as an argument. -/
structure NodeS.rng (x : NodeS) : Prop where
  kind : 0 ≤ x.kind ∧ x.kind < 4294967296
  gen : 0 ≤ x.gen ∧ x.gen < 4294967296
  mode : 0 ≤ x.mode ∧ x.mode < 4294967296
  user : 0 ≤ x.user ∧ x.user < 4294967296
  group : 0 ≤ x.group ∧ x.group < 4294967296
  links : -9223372036854775808 ≤ x.links ∧ x.links < 9223372036854775808
  rs : 0 ≤ x.rs ∧ x.rs < 4294967296
  rn : 0 ≤ x.rn ∧ x.rn < 4294967296
  ws : 0 ≤ x.ws ∧ x.ws < 4294967296
  wn : 0 ≤ x.wn ∧ x.wn < 4294967296
  ts : 0 ≤ x.ts ∧ x.ts < 4294967296
  tn : 0 ≤ x.tn ∧ x.tn < 4294967296
  bytes : ∀ b ∈ x.bytes, 0 ≤ b ∧ b < 256
  bytesL : x.bytes.length ≤ 140737488351232
  verf : ∀ i, i < 8 → 0 ≤ x.verf i ∧ x.verf i < 256
  target : x.target.length ≤ 140737488351232
  ents : ∀ e ∈ x.ents, e.name.length ≤ 140737488351232 ∧ (-9223372036854775808 ≤ e.node ∧ e.node < 9223372036854775808) ∧ 0 ≤ e.cookie ∧ e.cookie < 18446744073709551616
  entsL : x.ents.length * 32 ≤ 140737488351232
  parent : -9223372036854775808 ≤ x.parent ∧ x.parent < 9223372036854775808
  next : 0 ≤ x.next ∧ x.next < 18446744073709551616
/-- A row of nodes that nobody writes. -/
def nodesOk (v : AV) (l : List NodeS) : Prop := (v = .sl0 ∧ l = []) ∨ ∃ t, v = .sl (nodesA l) l.length t
/-- A tree. -/
structure TreeS where
  v : AV
  ns : List NodeS
  gen : Int
structure TreeS.ok (t : TreeS) : Prop where
  v : nodesOk t.v t.ns
  ns : ∀ x ∈ t.ns, x.ok ∧ x.rng
  len : t.ns.length ≤ 140737488351232
  gen : 0 ≤ t.gen ∧ t.gen < 4294967296
def treeA (t : TreeS) : AV := .agg [t.v, .int .u32 t.gen]
def kindS (ns : List NodeS) (n : Int) : Int := match ns[n.toNat]? with
  | some x => x.kind
  | none => 0
def thereS (ns : List NodeS) (n : Int) : Bool := decide (0 < n) && (decide (n < ns.length) && (kindS ns n != 0))
set_option maxRecDepth 100000
theorem there_c (m : Nat) (from_ : FuncId) (h : H) (v : AV) (ns : List NodeS) (hv : nodesOk v ns) (gen n : Int) : evCall TE (m + 1) from_ (.fn 21 [] []) [.agg [v, .int .u32 gen], .int .i64 n] h = some (.ret (.bool (thereS ns n)), h) := by
  rcases hv with ⟨rfl, rfl⟩ | ⟨t, rfl⟩
  · refine call_clean (fn := Try.f21) rfl Try.func21 rfl rfl rfl rfl rfl (Nat.le_of_ble_eq_true rfl) ?_
    conv => whnf
    unfold thereS
    cases h1 : decide (0 < n) with
    | false =>
      conv => whnf
      rfl
    | true =>
      have h1 := of_decide_eq_true h1
      have e : decide (n < ((0 : Nat) : Int)) = false := decide_eq_false (by omega)
      conv => whnf
      rw [e]
      conv => whnf
      show AV.bool false = AV.bool (true && (decide (n < ((0 : Nat) : Int)) && _))
      rw [e]
      rfl
  refine call_clean (fn := Try.f21) rfl Try.func21 rfl rfl rfl rfl rfl (Nat.le_of_ble_eq_true rfl) ?_
  conv => whnf
  unfold thereS
  cases h1 : decide (0 < n) with
  | false =>
    conv => whnf
    rfl
  | true =>
    conv => whnf
    cases h2 : decide (n < (ns.length : Int)) with
    | false =>
      conv => whnf
      rfl
    | true =>
      have h1 := of_decide_eq_true h1
      have h2 := of_decide_eq_true h2
      obtain ⟨x, hx⟩ : ∃ x, ns[n.toNat]? = some x := ⟨_, List.getElem?_eq_getElem (by omega)⟩
      conv => whnf
      refine runK_ret (ev_indexSl (sz := 25) rfl rfl rfl rfl (by omega) h2) ?_
      conv => whnf
      refine runK_ret (ev_loadV (z := 1) rfl rfl rfl ((nodesA_cell hx 0 (by decide)).trans rfl)) ?_
      conv => whnf
      unfold kindS
      rw [hx]
      rfl
def sizeS (x : NodeS) : Int := if x.kind = 1 then x.bytes.length else if x.kind = 5 then x.target.length else IntKind.wrap .i64 (32 * x.ents.length)
def attrsS (x : NodeS) (n : Int) : List AV := [.int .u32 x.kind, .int .u32 x.mode, .int .u32 (IntKind.wrap .u32 x.links), .int .u32 x.user, .int .u32 x.group, .int .u64 (IntKind.wrap .u64 (sizeS x)), .int .u64 (IntKind.wrap .u64 (sizeS x)), .int .u64 (IntKind.wrap .u64 n),
  .int .u32 x.rs, .int .u32 x.rn, .int .u32 x.ws, .int .u32 x.wn, .int .u32 x.ts, .int .u32 x.tn]
def attrs0 : List AV := [.int .u32 0, .int .u32 0, .int .u32 0, .int .u32 0, .int .u32 0, .int .u64 0, .int .u64 0, .int .u64 0, .int .u32 0, .int .u32 0, .int .u32 0, .int .u32 0, .int .u32 0, .int .u32 0]
theorem attrs_none (m : Nat) (from_ : FuncId) (h : H) (v : AV) (ns : List NodeS) (hv : nodesOk v ns) (gen n : Int) (hn : thereS ns n = false) : evCall TE (m + 2) from_ (.fn 37 [] []) [.agg [v, .int .u32 gen], .int .i64 n] h = some (.ret (.tup [.agg attrs0, .bool false]), h) := by
  have hth := fun (f : FuncId) (h : H) => there_c m f h v ns hv gen n
  rw [hn] at hth
  rcases hv with ⟨rfl, rfl⟩ | ⟨t, rfl⟩
  all_goals
    refine call_clean (fn := Try.f37) rfl Try.func37 rfl rfl rfl rfl rfl (Nat.le_of_ble_eq_true rfl) ?_
    conv => whnf
    refine ⟨_, _, hth _ _, ?_⟩
    conv => whnf
    rfl
set_option maxHeartbeats 4000000 in
theorem attrs_some (m : Nat) (from_ : FuncId) (h : H) (v : AV) (ns : List NodeS) (hv : nodesOk v ns) (gen n : Int) (x : NodeS) (hn : thereS ns n = true) (hx : ns[n.toNat]? = some x) (hok : x.ok) : evCall TE (m + 2) from_ (.fn 37 [] []) [.agg [v, .int .u32 gen], .int .i64 n] h = some (.ret (.tup [.agg (attrsS x n), .bool true]), h) := by
  have hth := fun (f : FuncId) (h : H) => there_c m f h v ns hv gen n
  rw [hn] at hth
  rcases hv with ⟨rfl, rfl⟩ | ⟨t, rfl⟩
  · simp at hx
  refine call_clean (fn := Try.f37) rfl Try.func37 rfl rfl rfl rfl rfl (Nat.le_of_ble_eq_true rfl) ?_
  conv => whnf
  refine ⟨_, _, hth _ _, ?_⟩
  unfold thereS at hn
  rw [Bool.and_eq_true, Bool.and_eq_true, decide_eq_true_eq, decide_eq_true_eq] at hn
  have hl : n.toNat * 25 + 25 ≤ (nodesA ns).length := by rw [nodesA_len]; omega
  conv => whnf
  refine runK_ret (ev_indexSl (sz := 25) rfl rfl rfl rfl (by omega) hn.2.1) ?_
  conv => whnf
  refine runK_ret (ev_loadVA (z := 25) rfl rfl rfl hl (nodesA_node hx)) ?_
  obtain ⟨kd, ge, mo, us, gr, li, rs, rn, ws, wn, ts, tn, da, by_, vf, ta, ls, es, pa, nx⟩ := x
  simp only [NodeS.ok, rowOk, entsOk] at hok
  obtain ⟨hd, hl⟩ := hok
  unfold attrsS sizeS
  dsimp only
  by_cases k1 : kd = 1
  · subst k1
    rcases hd with ⟨rfl, rfl⟩ | ⟨dt, rfl⟩ <;> rcases hl with ⟨rfl, rfl⟩ | ⟨lt, rfl⟩ <;> conv => whnf
    all_goals rfl
  · by_cases k5 : kd = 5
    · subst k5
      rcases hd with ⟨rfl, rfl⟩ | ⟨dt, rfl⟩ <;> rcases hl with ⟨rfl, rfl⟩ | ⟨lt, rfl⟩ <;> conv => whnf
      all_goals rfl
    · rw [if_neg k1, if_neg k5]
      have b1 : (kd == 1) = false := by simpa using k1
      have b5 : (kd == 5) = false := by simpa using k5
      rcases hd with ⟨rfl, rfl⟩ | ⟨dt, rfl⟩ <;> rcases hl with ⟨rfl, rfl⟩ | ⟨lt, rfl⟩ <;> conv => whnf
      all_goals refine runK_ret (v := .tup [.int .i64 0, .bool false]) (w := .none) (by simp [findA, sameCell, lookA, lookT, AV.ofValue, AV.ofCell, b1, b5]) ?_
      all_goals conv => whnf
      all_goals rfl
end Go.Proofs.Ytnkeijebkpjdgaa.Ab
