import Derived.Test.YtbebcbcnibfbhaaEI
/- The engine, tenth text: arithmetic, comparisons, conversions. -/
namespace Go.Proofs.Ytbebcbcnibfbhaa.Ab
open Go

section ops
variable {P : Program} {K : KS} {bs : List AB} {w : World}

theorem less_eq : ∀ (x y : List UInt8), lessA x y = Op.bytesLess x y
  | _, [] => by unfold lessA Op.bytesLess; rfl
  | [], _ :: _ => by unfold lessA Op.bytesLess; rfl
  | a :: x, b :: y => by
    rw [lessA, Op.bytesLess, less_eq x y]
theorem str_sound {hp : Array Obj} {op : BinOp} {a b : List UInt8} {x y : ByteArray} (hx : x.data.toList = a) (hy : y.data.toList = b) {r : AV} (h : strA op a b = some r) :
    ∃ v, (Op.stringOp op x y).run P w = .ok v w ∧ RepV K bs hp r v := by
  have ex := ByteArray.toList_eq x
  have ey := ByteArray.toList_eq y
  rw [hx] at ex
  rw [hy] at ey
  have hsx := bytes_size hx
  have hsy := bytes_size hy
  unfold strA at h
  unfold Op.stringOp
  rw [ex, ey, hsx, hsy]
  cases op <;> (try simp only [Option.some.injEq] at h) <;> try (cases h; done)
  case add =>
    split at h
    · cases h
    · rename_i hc
      cases h
      refine ⟨.string (x ++ y), by simp only [hc, if_false, Sem.run_pure], .clean ?_⟩
      have : (x ++ y).data.toList = a ++ b := by rw [ByteArray.data_append, Array.toList_append, hx, hy]
      rw [← this]
      exact .str _
  all_goals
    subst h
    refine ⟨_, rfl, .clean ?_⟩
    (try simp only [less_eq])
    exact .bool _
theorem int_sound {hp : Array Obj} {op : BinOp} {k : IntKind} {x y : Int} {t : TypeId} {r : AV} (h : intArithA op k x y = some r) :
    ∃ v, (binOp op t (.int k x) (.int k y)).run P w = .ok v w ∧ RepV K bs hp r v := by
  have hk : ∀ (a b : Sem Value), (if k ≠ k then a else b) = b := fun a b => if_neg (fun h => h rfl)
  unfold intArithA at h
  unfold binOp
  cases op <;> (try simp only [Option.some.injEq] at h) <;> try (cases h; done)
  case quo =>
    split at h
    · cases h
    · rename_i hc
      cases h
      exact ⟨_, by simp [Op.intDiv, hc], .clean (.int _ _)⟩
  case rem =>
    split at h
    · cases h
    · rename_i hc
      cases h
      exact ⟨_, by simp [Op.intDiv, hc], .clean (.int _ _)⟩
  all_goals
    subst h
    first
      | exact ⟨_, by simp only [hk]; rfl, .clean (.int _ _)⟩
      | exact ⟨_, by simp only [hk]; rfl, .clean (.bool _)⟩
theorem shift_sound {hp : Array Obj} {op : BinOp} {k : IntKind} {x y : Int} {r : AV} (h : shiftA op k x y = some r) :
    ∃ v, (∀ yk, (Op.shift op k x yk y).run P w = .ok v w) ∧ RepV K bs hp r v := by
  unfold shiftA at h
  unfold Op.shift
  split at h
  · cases h
  · rename_i hc
    cases op <;> (try simp only [Option.some.injEq] at h) <;> try (cases h; done)
    all_goals
      subst h
      exact ⟨_, fun _ => by simp only [hc, if_false]; rfl, .clean (.int _ _)⟩
theorem sameCell_sound {hp : Array Obj} {a b : AV} {x y : Value} {s : Bool} (ha : RepV K bs hp a x) (hb : RepV K bs hp b y) (h : sameCell a b = some s) : sameCellV x y = some s := by
  unfold sameCell at h
  split at h
  · have := ha.inv_bool; subst this
    have := hb.inv_bool; subst this
    exact h
  · have := ha.inv_int; subst this
    have := hb.inv_int; subst this
    exact h
  · obtain ⟨t, rfl, ht⟩ := ha.inv_str
    obtain ⟨u, rfl, hu⟩ := hb.inv_str
    simp only [sameCellV]
    rw [← h]
    congr 1
    subst ht hu
    rw [show (t == u) = (t.toList == u.toList) from by
      rw [ByteArray.toList_eq, ByteArray.toList_eq]
      obtain ⟨⟨x⟩⟩ := t
      obtain ⟨⟨y⟩⟩ := u
      show ((⟨x⟩ : Array UInt8) == ⟨y⟩) = (x == y)
      simp, ByteArray.toList_eq, ByteArray.toList_eq]
  · cases h
theorem sameCells_sound {hp : Array Obj} : ∀ {a b : List AV} {x y : List Value} {s : Bool}, RepVL K bs hp a x → RepVL K bs hp b y → sameCells a b = some s → sameCellsV x y = some s
  | [], b, x, y, s, ha, hb, h => by
    cases ha
    cases b with
    | nil => cases hb; exact h
    | cons _ _ => simp [sameCells] at h
  | a :: as, b, x, y, s, ha, hb, h => by
    cases b with
    | nil => simp [sameCells] at h
    | cons c cs =>
      cases ha with
      | cons h0 ha =>
        cases hb with
        | cons h1 hb =>
          simp only [sameCells] at h
          cases hs : sameCell a c with
          | none => simp [hs] at h
          | some s1 =>
            cases ht : sameCells as cs with
            | none => simp [hs, ht] at h
            | some s2 =>
              simp only [hs, ht] at h
              simp only [sameCellsV, sameCell_sound h0 h1 hs, sameCells_sound ha hb ht, h]

theorem fitsA_sound {hp : Array Obj} : ∀ {ks : List Nat} {a : List AV} {x : List Value}, RepVL K bs hp a x → fitsA ks a = true → fitsV ks x = true
  | [], a, x, ha, h => by
    cases a with
    | nil => cases ha; rfl
    | cons _ _ => simp [fitsA] at h
  | k :: ks, a, x, ha, h => by
    cases a with
    | nil => simp [fitsA] at h
    | cons v r =>
      cases ha with
      | cons h0 ha =>
        cases v <;> simp only [fitsA, Bool.false_eq_true, Bool.and_eq_true] at h
        · have := h0.inv_bool; subst this
          simp only [fitsV, Bool.and_eq_true]; exact ⟨h.1, fitsA_sound ha h.2⟩
        · have := h0.inv_int; subst this
          simp only [fitsV, Bool.and_eq_true]; exact ⟨h.1, fitsA_sound ha h.2⟩
        · obtain ⟨t, rfl, _⟩ := h0.inv_str
          simp only [fitsV, Bool.and_eq_true]; exact ⟨h.1, fitsA_sound ha h.2⟩

/-- What is nil, in the machine. -/
theorem nilA_sound {hp : Array Obj} {a : AV} {x : Value} {k : Nat} {b : Bool} (ha : RepV K bs hp a x) (h : nilA a = some (k, b)) :
    (k = 0 → ∃ p, x = .pointer p ∧ p.isNone = b) ∧ (k = 1 → ∃ p n c, x = .slice p n c ∧ p.isNone = b) ∧ (k = 2 → ∃ p, x = .map p ∧ p.isNone = b) ∧ (k = 3 → (x = .nilFunc ∧ b = true) ∨ (∃ f y z, x = .func f y z ∧ b = false)) := by
  unfold nilA at h
  split at h <;> cases h
  · have := ha.inv_ptr0; subst this; simp
  · obtain ⟨x, rfl, _⟩ := ha.inv_ref; simp
  · obtain ⟨b, o, us, rfl, _⟩ := ha.inv_vref; simp
  · have := ha.inv_sl0; subst this; simp
  · obtain ⟨b, o, sp, cap, us, rfl, _⟩ := ha.inv_sl; simp
  · obtain ⟨x, o, cp, rfl, _⟩ := ha.inv_rsl; simp
  · have := ha.inv_map0; subst this; simp
  · obtain ⟨x, rfl, _⟩ := ha.inv_mref; simp
  · have := ha.inv_fn0; subst this; simp
  · obtain ⟨va, vb, rfl, _⟩ := ha.inv_fn; simp
  · simp
  · simp
theorem nilEq_sound {hp : Array Obj} {a b : AV} {x y : Value} {s : Bool} {t : TypeId} {d : TypeDesc} (ha : RepV K bs hp a x) (hb : RepV K bs hp b y) (ht : P.underlying t = some d) (h : nilEqA d a b = some s) : (Op.equal t x y).run P w = .ok s w := by
  unfold nilEqA at h
  split at h
  · rename_i k p k' q h1 h2
    split at h
    · rename_i hc
      obtain ⟨rfl, hor, hk⟩ := hc
      cases h
      have g1 := nilA_sound ha h1
      have g2 := nilA_sound hb h2
      obtain ⟨N, hN⟩ : ∃ N, Op.maxDepth = N + 1 := ⟨9999, rfl⟩
      unfold Op.equal
      rw [hN]
      clear hN
      unfold Op.equalIn
      simp only [Sem.run_bind, run_undA ht, Result.andThen_ok]
      cases d <;> simp only [kindA] at hk <;> try (cases hk; done)
      all_goals
        cases hk
      · obtain ⟨u, rfl, e1⟩ := g1.1 rfl
        obtain ⟨v, rfl, e2⟩ := g2.1 rfl
        cases u <;> cases v <;> simp_all
      · obtain ⟨u, n, c, rfl, e1⟩ := g1.2.1 rfl
        obtain ⟨v, m, d, rfl, e2⟩ := g2.2.1 rfl
        cases u <;> cases v <;> simp_all
      · obtain ⟨u, rfl, e1⟩ := g1.2.2.1 rfl
        obtain ⟨v, rfl, e2⟩ := g2.2.2.1 rfl
        cases u <;> cases v <;> simp_all
      · rcases g1.2.2.2 rfl with ⟨rfl, e1⟩ | ⟨f, y, z, rfl, e1⟩ <;> rcases g2.2.2.2 rfl with ⟨rfl, e2⟩ | ⟨f', y', z', rfl, e2⟩ <;> simp_all
    · cases h
  · cases h
theorem eq_sound {hp : Array Obj} {flat : TypeId → Option (List Nat)} (hf : ∀ t ks, flat t = some ks → FlatTy P t ks) {a b : AV} {x y : Value} {s : Bool} {t : TypeId} (ha : RepV K bs hp a x) (hb : RepV K bs hp b y) (h : eqA P flat t a b = some s) (op : BinOp) (p q : Operand) (ho : op = .eql ∨ op = .neq) :
    (eqGuard op t p q x y).run P w = .ok () w ∧ (Op.equal t x y).run P w = .ok s w := by
  unfold eqA at h
  split at h
  · have := ha.inv_bool; subst this
    have := hb.inv_bool; subst this
    split at h
    · rename_i ht
      cases h
      refine ⟨by simp [eqGuard], ?_⟩
      obtain ⟨N, hN⟩ : ∃ N, Op.maxDepth = N + 1 := ⟨9999, rfl⟩
      unfold Op.equal
      rw [hN]
      clear hN
      unfold Op.equalIn
      simp only [Sem.run_bind, run_undA ht, Result.andThen_ok]
      rfl
    · cases h
  · obtain ⟨xs, rfl, h1⟩ := ha.inv_agg
    obtain ⟨ys, rfl, h2⟩ := hb.inv_agg
    split at h
    · rename_i ks hft
      split at h
      · rename_i hfa
        exact hf t ks hft xs ys s w op p q (fitsA_sound h1 hfa) (sameCells_sound h1 h2 h) ho
      · cases h
    · cases h
  · rename_i hna hnb
    split at h
    · rename_i d ht
      refine ⟨?_, nilEq_sound ha hb ht h⟩
      have hx : x ≠ .nilIface ∧ ∀ c, x ≠ .agg c := by
        unfold nilEqA at h
        split at h
        · rename_i k p k' q h1 h2
          split at h
          · rename_i hc
            obtain ⟨rfl, hor, hk⟩ := hc
            have g1 := nilA_sound ha h1
            cases d <;> simp only [kindA] at hk <;> try (cases hk; done)
            all_goals
              cases hk
            · obtain ⟨u, rfl, e1⟩ := g1.1 rfl; simp
            · obtain ⟨u, n, c, rfl, e1⟩ := g1.2.1 rfl; simp
            · obtain ⟨u, rfl, e1⟩ := g1.2.2.1 rfl; simp
            · rcases g1.2.2.2 rfl with ⟨rfl, e1⟩ | ⟨f, y, z, rfl, e1⟩ <;> simp
          · cases h
        · cases h
      unfold eqGuard
      rcases ho with rfl | rfl <;> simp only [Bool.not_true, Bool.false_eq_true, if_false] <;>
        (split <;> first | (exact absurd rfl hx.1) | (exact absurd rfl (hx.2 _)) | simp)
    · cases h
theorem eq_shape {hp : Array Obj} {flat : TypeId → Option (List Nat)} {a b : AV} {x : Value} {s : Bool} {t : TypeId} (ha : RepV K bs hp a x) (h : eqA P flat t a b = some s) :
    (∃ b, x = .bool b) ∨ (∃ c, x = .agg c) ∨ (∃ p, x = .pointer p) ∨ (∃ p n c, x = .slice p n c) ∨ (∃ p, x = .map p) ∨ x = .nilFunc ∨ (∃ f y z, x = .func f y z) := by
  unfold eqA at h
  split at h
  · have := ha.inv_bool; subst this
    exact .inl ⟨_, rfl⟩
  · obtain ⟨xs, rfl, h1⟩ := ha.inv_agg
    exact .inr (.inl ⟨_, rfl⟩)
  · split at h
    · rename_i d _
      unfold nilEqA at h
      split at h
      · rename_i k p k' q h1 h2
        split at h
        · rename_i hc
          obtain ⟨rfl, hor, hk⟩ := hc
          have g1 := nilA_sound ha h1
          cases d <;> simp only [kindA] at hk <;> try (cases hk; done)
          all_goals
            cases hk
          · obtain ⟨u, rfl, e1⟩ := g1.1 rfl; simp
          · obtain ⟨u, n, c, rfl, e1⟩ := g1.2.1 rfl; simp
          · obtain ⟨u, rfl, e1⟩ := g1.2.2.1 rfl; simp
          · rcases g1.2.2.2 rfl with ⟨rfl, e1⟩ | ⟨f, y, z, rfl, e1⟩ <;> simp
        · cases h
      · cases h
    · cases h
theorem bin_sound {hp : Array Obj} {flat : TypeId → Option (List Nat)} (hf : ∀ t ks, flat t = some ks → FlatTy P t ks) {op : BinOp} {t : TypeId} {a b r : AV} {x y : Value} (ha : RepV K bs hp a x) (hb : RepV K bs hp b y) (h : binA P flat op t a b = some r) (p q : Operand) :
    ∃ v, (do eqGuard op t p q x y; binOp op t x y : Sem Value).run P w = .ok v w ∧ RepV K bs hp r v := by
  have hints : ∀ k n k' m, (eqGuard op t p q (.int k n) (.int k' m)).run P w = .ok () w := by
    intro k n k' m
    unfold eqGuard
    split <;> simp
  have hstrs : ∀ s u, (eqGuard op t p q (.string s) (.string u)).run P w = .ok () w := by
    intro s u
    unfold eqGuard
    split <;> simp
  unfold binA at h
  split at h
  · have := ha.inv_int; subst this
    have := hb.inv_int; subst this
    obtain ⟨v, h1, h2⟩ := shift_sound (P := P) (w := w) (K := K) (bs := bs) (hp := hp) h
    exact ⟨v, by simp [hints, binOp, h1], h2⟩
  · have := ha.inv_int; subst this
    have := hb.inv_int; subst this
    obtain ⟨v, h1, h2⟩ := shift_sound (P := P) (w := w) (K := K) (bs := bs) (hp := hp) h
    exact ⟨v, by simp [hints, binOp, h1], h2⟩
  · have := ha.inv_int; subst this
    have := hb.inv_int; subst this
    split at h
    · rename_i e
      subst e
      obtain ⟨v, h1, h2⟩ := int_sound (P := P) (w := w) (t := t) (K := K) (bs := bs) (hp := hp) h
      exact ⟨v, by simp [hints, h1], h2⟩
    · cases h
  · rename_i a b _ _
    obtain ⟨s, rfl, hs⟩ := ha.inv_str
    obtain ⟨u, rfl, hu⟩ := hb.inv_str
    obtain ⟨v, h1, h2⟩ := str_sound (P := P) (w := w) (K := K) (bs := bs) (hp := hp) hs hu h
    refine ⟨v, ?_, h2⟩
    have : binOp op t (.string s) (.string u) = Op.stringOp op s u := by unfold binOp; cases op <;> rfl
    simp [hstrs, this, h1]
  · cases he : eqA P flat t a b with
    | none => simp [he] at h
    | some s =>
      simp only [he, Option.map_some, Option.some.injEq] at h
      subst h
      obtain ⟨g1, g2⟩ := eq_sound (w := w) hf ha hb he .eql p q (.inl rfl)
      refine ⟨.bool s, ?_, .clean (.bool _)⟩
      have hb' : binOp .eql t x y = (do pure (.bool (← Op.equal t x y)) : Sem Value) := by
        rcases eq_shape ha he with ⟨_, rfl⟩ | ⟨_, rfl⟩ | ⟨_, rfl⟩ | ⟨_, _, _, rfl⟩ | ⟨_, rfl⟩ | rfl | ⟨_, _, _, rfl⟩ <;> rfl
      simp [g1, hb', g2]
  · cases he : eqA P flat t a b with
    | none => simp [he] at h
    | some s =>
      simp only [he, Option.map_some, Option.some.injEq] at h
      subst h
      obtain ⟨g1, g2⟩ := eq_sound (w := w) hf ha hb he .neq p q (.inr rfl)
      refine ⟨.bool !s, ?_, .clean (.bool _)⟩
      have hb' : binOp .neq t x y = (do pure (.bool (!(← Op.equal t x y))) : Sem Value) := by
        rcases eq_shape ha he with ⟨_, rfl⟩ | ⟨_, rfl⟩ | ⟨_, rfl⟩ | ⟨_, _, _, rfl⟩ | ⟨_, rfl⟩ | rfl | ⟨_, _, _, rfl⟩ <;> rfl
      simp [g1, hb', g2]
  · cases h
end ops
end Go.Proofs.Ytbebcbcnibfbhaa.Ab
