import Derived.Test.YtnkeijebkpjdgaaMLookKeeps6
import Derived.RangeFuncLeaves
set_option linter.unusedVariables false
set_option linter.unusedSimpArgs false
/- The engine, sixteenth text: slots, states, marks; regions that keep the text's order. -/
namespace Go.Proofs.Ytnkeijebkpjdgaa.Ab
open Go

/-! Slots -/
theorem RT.get_put_ne (v : AV) : ∀ (t : RT) (d e : Nat), d ≠ e → (t.put v d).get e = t.get e
  | .leaf, _, _, _ => rfl
  | .node x l r, d, e, h => by
    simp only [RT.put]
    by_cases h1 : d = 1
    · subst h1
      have he : Nat.beq e 1 = false := by
        cases hb : Nat.beq e 1 with
        | false => rfl
        | true => exact absurd (Nat.eq_of_beq_eq_true hb).symm h
      simp only [show Nat.beq 1 1 = true from rfl, RT.get, cond_true, he, cond_false]
    · have hd : Nat.beq d 1 = false := by
        cases hb : Nat.beq d 1 with
        | false => rfl
        | true => exact absurd (Nat.eq_of_beq_eq_true hb) h1
      rw [hd, cond_false]
      cases h2 : Nat.beq (d % 2) 0 with
      | true =>
        have := Nat.eq_of_beq_eq_true h2
        simp only [cond_true, RT.get]
        cases Nat.beq e 1 with
        | true => rfl
        | false =>
          simp only [cond_false]
          cases h3 : Nat.beq (e % 2) 0 with
          | true =>
            have := Nat.eq_of_beq_eq_true h3
            simp only [cond_true]
            exact RT.get_put_ne v l _ _ (by omega)
          | false => rfl
      | false =>
        have hd2 : d % 2 ≠ 0 := fun e => by rw [e] at h2; cases h2
        simp only [cond_false, RT.get]
        cases Nat.beq e 1 with
        | true => rfl
        | false =>
          simp only [cond_false]
          cases h3 : Nat.beq (e % 2) 0 with
          | true => rfl
          | false =>
            have he2 : e % 2 ≠ 0 := fun e => by rw [e] at h3; cases h3
            simp only [cond_false]
            exact RT.get_put_ne v r _ _ (by omega)
theorem RT.get_put_same (v : AV) : ∀ (t : RT) (d : Nat), (t.put v d).get d = v ∨ (t.put v d).get d = .hole
  | .leaf, _ => .inr rfl
  | .node x l r, d => by
    simp only [RT.put]
    cases h1 : Nat.beq d 1 with
    | true => simp only [cond_true, RT.get, h1]; exact .inl trivial
    | false =>
      simp only [cond_false]
      cases h2 : Nat.beq (d % 2) 0 with
      | true => simp only [cond_true, RT.get, h1, cond_false, h2]; exact RT.get_put_same v l _
      | false => simp only [RT.get, h1, cond_false, h2]; exact RT.get_put_same v r _
theorem RT.mk_get : ∀ (n k : Nat), (RT.mk n).get k = .hole
  | 0, _ => rfl
  | n + 1, k => by
    simp only [RT.mk, RT.get, RT.mk_get n]
    cases Nat.beq k 1 <;> cases Nat.beq (k % 2) 0 <;> rfl
theorem RG.empty_get (n k : Nat) : (RG.empty n).get k = .hole := RT.mk_get _ _
theorem RG.put_n (r : RG) (i : Nat) (v : AV) : (r.put i v).n = r.n := by
  unfold RG.put
  cases Nat.blt i r.n <;> rfl
theorem RG.get_put (r : RG) (i : Nat) (v : AV) (j : Nat) : (j ≠ i ∧ (r.put i v).get j = r.get j) ∨ (j = i ∧ r.n ≤ i ∧ (r.put i v).get j = r.get j) ∨ (j = i ∧ i < r.n ∧ ((r.put i v).get j = v ∨ (r.put i v).get j = .hole)) := by
  unfold RG.put
  cases h : Nat.blt i r.n with
  | false =>
    have hi : r.n ≤ i := by
      rcases Nat.lt_or_ge i r.n with h' | h'
      · have : Nat.blt i r.n = true := by rw [Nat.blt_eq]; exact h'
        rw [h] at this
        cases this
      · exact h'
    by_cases hj : j = i
    · exact .inr (.inl ⟨hj, hi, rfl⟩)
    · exact .inl ⟨hj, rfl⟩
  | true =>
    have hi : i < r.n := by rw [Nat.blt_eq] at h; exact h
    simp only [cond_true, RG.get]
    by_cases hj : j = i
    · subst hj
      exact .inr (.inr ⟨rfl, hi, RT.get_put_same v _ _⟩)
    · exact .inl ⟨hj, RT.get_put_ne v _ _ _ (by omega)⟩
theorem RG.puts_n : ∀ (l : List AV) (r : RG) (i : Nat), (r.puts i l).n = r.n
  | [], _, _ => rfl
  | v :: l, r, i => by simp only [RG.puts, RG.puts_n l, RG.put_n]
theorem RG.puts_get : ∀ (l : List AV) (r : RG) (i j : Nat), (∃ k x, l[k]? = some x ∧ j = i + k ∧ (r.puts i l).get j = x) ∨ (r.puts i l).get j = r.get j ∨ (r.puts i l).get j = .hole
  | [], _, _, _ => .inr (.inl rfl)
  | v :: l, r, i, j => by
    simp only [RG.puts]
    rcases RG.puts_get l (r.put i v) (i + 1) j with ⟨k, x, h1, h2, h3⟩ | h | h
    · exact .inl ⟨k + 1, x, by simpa using h1, by omega, h3⟩
    · rcases RG.get_put r i v j with ⟨_, g⟩ | ⟨_, _, g⟩ | ⟨g1, _, g | g⟩
      · exact .inr (.inl (h.trans g))
      · exact .inr (.inl (h.trans g))
      · exact .inl ⟨0, v, rfl, by omega, h.trans g⟩
      · exact .inr (.inr (h.trans g))
    · exact .inr (.inr h)
theorem RG.keep_n (r : RG) : ∀ ks, (r.keep ks).n = r.n
  | [] => rfl
  | k :: ks => by simp only [RG.keep, RG.put_n, RG.keep_n r ks]
theorem RG.keep_get (r : RG) : ∀ (ks : List Nat) (j : Nat), (r.keep ks).get j = .hole ∨ ((r.keep ks).get j = r.get j ∧ (r.get j).top ≤ r.topOf ks)
  | [], j => .inl (RG.empty_get _ _)
  | k :: ks, j => by
    simp only [RG.keep, RG.topOf]
    have ih := RG.keep_get r ks j
    rcases RG.get_put (r.keep ks) k (r.get k) j with ⟨_, g⟩ | ⟨_, _, g⟩ | ⟨g1, _, g | g⟩
    · rw [g]; exact ih.imp id fun h => ⟨h.1, by omega⟩
    · rw [g]; exact ih.imp id fun h => ⟨h.1, by omega⟩
    · subst g1; rw [g]; exact .inr ⟨rfl, by omega⟩
    · exact .inl g
theorem RT.top_le : ∀ (t : RT) (m : Nat), (∀ n, 1 ≤ n → (t.get n).top ≤ m) → t.top ≤ m
  | .leaf, m, _ => Nat.zero_le _
  | .node v l r, m, h => by
    simp only [RT.top]
    have h1 := h 1 (Nat.le_refl _)
    simp only [RT.get, show Nat.beq 1 1 = true from rfl, cond_true] at h1
    have h2 := RT.top_le l m fun n hn => by
      have := h (2 * n) (by omega)
      have e1 : Nat.beq (2 * n) 1 = false := by
        cases hb : Nat.beq (2 * n) 1 with
        | false => rfl
        | true => have := Nat.eq_of_beq_eq_true hb; omega
      simp only [RT.get, e1, cond_false] at this
      rw [show 2 * n % 2 = 0 by omega, show 2 * n / 2 = n by omega] at this
      exact this
    have h3 := RT.top_le r m fun n hn => by
      have := h (2 * n + 1) (by omega)
      have e1 : Nat.beq (2 * n + 1) 1 = false := by
        cases hb : Nat.beq (2 * n + 1) 1 with
        | false => rfl
        | true => have := Nat.eq_of_beq_eq_true hb; omega
      simp only [RT.get, e1, cond_false] at this
      rw [show (2 * n + 1) % 2 = 1 by omega, show (2 * n + 1) / 2 = n by omega] at this
      exact this
    omega

section reg
variable {K : KS} {bs : List AB} {hp : Array Obj}
theorem RepV.ofHole (v : Value) : RepV K bs hp .hole v := .clean (.hole v)
theorem RegR.put {r : RG} {a : Array Value} (h : RegR K bs hp r a) {v : AV} {u : Value} (hv : RepV K bs hp v u) (i : Nat) : RegR K bs hp (r.put i v) (a.setIfInBounds i u) := by
  refine ⟨by rw [Array.size_setIfInBounds, RG.put_n]; exact h.1, fun j => ?_⟩
  have hj := h.2 j
  have hs := h.1
  rcases RG.get_put r i v j with ⟨g1, g⟩ | ⟨g1, g2, g⟩ | ⟨g1, g2, g⟩
  · rw [g]
    rw [Array.getD_eq_getD_getElem?, Array.getElem?_setIfInBounds_ne (fun e => g1 e.symm), ← Array.getD_eq_getD_getElem?]
    exact hj
  · rw [g, Array.setIfInBounds_eq_of_size_le (by omega)]
    exact hj
  · subst g1
    rcases g with g | g
    · rw [g, Array.getD_eq_getD_getElem?, Array.getElem?_setIfInBounds_self_of_lt (by omega)]
      exact hv
    · rw [g]; exact .ofHole _
theorem RegR.weak {r r' : RG} {a : Array Value} (h : RegR K bs hp r a) (hn : r'.n = r.n) (hg : ∀ j, r'.get j = .hole ∨ r'.get j = r.get j) : RegR K bs hp r' a := by
  refine ⟨h.1.trans hn.symm, fun j => ?_⟩
  rcases hg j with g | g
  · rw [g]; exact .ofHole _
  · rw [g]; exact h.2 j
theorem RegR.start {l : List AV} {vs : List Value} (h : RepVL K bs hp l vs) {n : Nat} (hn : l.length ≤ n) : RegR K bs hp ((RG.empty n).puts 0 l) (vs.toArray ++ Array.replicate (n - vs.toArray.size) undef) := by
  have hl := h.len
  refine ⟨by rw [RG.puts_n]; simp [RG.empty]; omega, fun j => ?_⟩
  rcases RG.puts_get l (RG.empty n) 0 j with ⟨k, x, h1, h2, h3⟩ | g | g
  · obtain ⟨v, hv, hR⟩ := h.get h1
    have hk : j = k := by omega
    subst hk
    rw [h3, Array.getD_eq_getD_getElem?, Array.getElem?_append_left (by simpa using (List.getElem?_eq_some_iff.1 hv).1), List.getElem?_toArray, hv]
    exact hR
  · rw [g, RG.empty_get]; exact .ofHole _
  · rw [g]; exact .ofHole _
theorem RegR.top {r : RG} {a : Array Value} (h : RegR K bs hp r a) : r.t.top ≤ bs.length :=
  RT.top_le _ _ fun n hn => by
    have := (h.2 (n - 1)).top_le
    unfold RG.get at this
    rwa [Nat.sub_add_cancel hn] at this
theorem opnd_rep {r : RG} {a : Act} (h : RegR K bs hp r a.tmps) (x : Operand) : RepV K bs hp (opnd r x) (a.eval x) := by
  cases x with
  | tmp t => exact h.2 t
  | const v => exact .clean (ofValue_rep _ _ _)
  | global g => exact .ofHole _
  | func f => exact .fn .nil .nil
theorem putT_rep {r : RG} {a : Act} (h : RegR K bs hp r a.tmps) {v : AV} {u : Value} (hv : RepV K bs hp v u) (dst : Option Tmp) : RegR K bs hp (putT r dst v) (a.put dst u).tmps := by
  cases dst with
  | none => exact h
  | some d => exact h.put hv d
theorem put_defers (a : Act) (dst : Option Tmp) (u : Value) : (a.put dst u).defers = a.defers := by cases dst <;> rfl
theorem wanted_sound {ops : Array Oper} {r : RG} {a : Array Value} (h : RegR K bs hp r a) {o : Oper} {b : Bool} (hw : wantedA ops r o = some b) : Region.wanted o (yielded ops a) = b := by
  unfold wantedA at hw
  unfold Region.wanted
  split at hw
  · rename_i hg
    simp only [hg]
    cases hw; rfl
  · rename_i j want hg
    simp only [hg]
    unfold yielded
    split at hw
    · rename_i d hd
      rw [hd]
      simp only [Option.bind_some]
      have hR := h.2 d
      rw [Array.getD_eq_getD_getElem?] at hR
      split at hw
      · rename_i t ht
        rw [ht] at hR
        cases ha : a[d]? with
        | none =>
          rw [ha] at hR
          have := hR.inv_bool
          simp [undef] at this
        | some v =>
          rw [ha] at hR
          have := hR.inv_bool
          simp only [Option.getD_some] at this
          subst this
          simp only
          cases hw
          cases t <;> cases want <;> rfl
      · cases hw
      · rename_i x hb hh
        cases hw
        cases ha : a[d]? with
        | none => rfl
        | some v =>
          rw [ha] at hR
          simp only [Option.getD_some] at hR
          split
          · rename_i b' hv
            cases hv
            exfalso
            cases hx : r.get d with
            | hole => exact hh hx
            | bool q => exact hb q hx
            | _ =>
              rw [hx] at hR
              cases hR with
              | clean h => cases h
          · rfl
    · rename_i hd
      rw [hd]
      cases hw
      rfl
end reg
end Go.Proofs.Ytnkeijebkpjdgaa.Ab
