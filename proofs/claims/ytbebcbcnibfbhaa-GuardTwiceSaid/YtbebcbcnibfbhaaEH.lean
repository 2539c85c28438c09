import Derived.Test.YtbebcbcnibfbhaaEG
/- The engine, eighth text: addresses, parts, slices, conversions, arithmetic. -/
namespace Go.Proofs.Ytbebcbcnibfbhaa.Ab
open Go

/-- What a type's equality says of two values of cells: alike cell by cell. -/
def sameCellV : Value → Value → Option Bool
  | .bool a, .bool b => some (a == b)
  | .int k a, .int k' b => if k = k' then some (a == b) else none
  | .string a, .string b => some (a == b)
  | _, _ => none
def sameCellsV : List Value → List Value → Option Bool
  | [], [] => some true
  | a :: x, b :: y => match sameCellV a b, sameCellsV x y with
    | some s, some t => some (s && t)
    | _, _ => none
  | _, _ => none
/-- Do cells fit kinds? -/
def fitsV : List Nat → List Value → Bool
  | [], [] => true
  | k :: ks, .int .. :: r => Nat.beq k 0 && fitsV ks r
  | k :: ks, .bool _ :: r => Nat.beq k 1 && fitsV ks r
  | k :: ks, .string _ :: r => Nat.beq k 2 && fitsV ks r
  | _, _ => false
def FlatTy (P : Program) (t : TypeId) (ks : List Nat) : Prop :=
  ∀ (xs ys : List Value) (s : Bool) (w : World) (op : BinOp) (x y : Operand), fitsV ks xs = true → sameCellsV xs ys = some s → (op = .eql ∨ op = .neq) →
    (eqGuard op t x y (.agg xs.toArray) (.agg ys.toArray)).run P w = .ok () w ∧ (Op.equal t (.agg xs.toArray) (.agg ys.toArray)).run P w = .ok s w

section ops
variable {P : Program} {K : KS} {bs : List AB} {w : World}

theorem addr_sound {hp : Array Obj} {a a2 : AV} {v : Value} {off : Nat} (h : RepV K bs hp a v) (ha : addrA a off = some a2) :
    ∃ x : Addr, v = .pointer (some x) ∧ RepV K bs hp a2 (.pointer (some (x.add off))) := by
  unfold addrA at ha
  split at ha
  · rename_i b o ver
    cases ha
    obtain ⟨x, rfl, h1, h2⟩ := h.inv_ref
    refine ⟨_, rfl, ?_⟩
    rw [add_addr]
    exact .ref h1 h2
  · rename_i c o
    cases ha
    obtain ⟨b, o2, us, rfl, h1, h2, h3⟩ := h.inv_vref
    refine ⟨_, rfl, ?_⟩
    rw [add_addr, Nat.add_assoc]
    exact .clean (.vref h1 h2 h3)
  · cases ha
theorem fieldAddr_sound {hp : Array Obj} {s : TypeId} {a r : AV} {v : Value} {f : Nat} (h : RepV K bs hp a v) (hf : fieldAddrA P s a f = some r) :
    ∃ v', (Instr.fieldAt s v f).run P w = .ok v' w ∧ RepV K bs hp r v' := by
  unfold fieldAddrA at hf
  split at hf
  · rename_i fs hu
    split at hf
    · rename_i x hx
      split at hf
      · rename_i n hn
        split at hf
        · cases hf
        · rename_i hn0
          obtain ⟨y, rfl, hR⟩ := addr_sound h hf
          refine ⟨_, ?_, hR⟩
          simp [Instr.fieldAt, run_undA hu, hx, Instr.sureAddr, fieldPlace, run_szOf hn, hn0]
      · cases hf
    · cases hf
  · cases hf
theorem part_sound {hp : Array Obj} {t : TypeId} {cs : List AV} {vs : List Value} {off : Nat} {a : AV} (h : RepVL K bs hp cs vs) (ha : partA P t cs off = some a) :
    ∃ v', (part t vs.toArray off).run P w = .ok v' w ∧ RepV K bs hp a v' := by
  unfold partA at ha
  have hl := h.len
  split at ha
  · rename_i n hag hsz
    split at ha
    · cases ha
      refine ⟨.agg ((vs.drop off).take n).toArray, ?_, .agg ((h.drop _).take _)⟩
      simp only [part, Sem.run_bind, run_isAggA hag, Result.andThen_ok, if_true, run_szOf hsz, Sem.run_pure]
      congr 2
      rw [List.extract_toArray]
      simp [List.extract]
    · cases ha
  · rename_i n hag hsz
    obtain ⟨u, hu, hR⟩ := h.get ha
    refine ⟨u, ?_, hR⟩
    simp [part, run_isAggA hag, hu]
  · cases ha
theorem field_sound {hp : Array Obj} {s : TypeId} {a r : AV} {v : Value} {f : Nat} (h : RepV K bs hp a v) (hf : fieldA P s a f = some r) :
    ∃ v', (Instr.field s v f).run P w = .ok v' w ∧ RepV K bs hp r v' := by
  unfold fieldA at hf
  split at hf
  · rename_i fs cs hu
    split at hf
    · rename_i y hy
      obtain ⟨vs, rfl, h1⟩ := h.inv_agg
      obtain ⟨v', hr, hR⟩ := part_sound (w := w) h1 hf
      exact ⟨v', by simp [Instr.field, run_undA hu, hy, asAgg, hr], hR⟩
    · cases hf
  · cases hf
theorem indexAddr_sound {hp : Array Obj} {t : TypeId} {a ix r : AV} {v i' : Value} (h : RepV K bs hp a v) (hi : RepV K bs hp ix i') (hf : indexAddrA P t a ix = some r) :
    ∃ v', (Instr.indexAt t v i').run P w = .ok v' w ∧ RepV K bs hp r v' := by
  unfold indexAddrA at hf
  split at hf
  · rename_i k i len e hu
    have := hi.inv_int; subst this
    split at hf
    · rename_i n hn
      split at hf
      · rename_i hc
        obtain ⟨y, rfl, hR⟩ := addr_sound h hf
        refine ⟨_, ?_, hR⟩
        simp [Instr.indexAt, asIntOf, run_undA hu, Instr.sureAddr, run_szOf hn, hc]
      · cases hf
    · cases hf
  · rename_i k i e hu
    have := hi.inv_int; subst this
    split at hf
    · rename_i n hn
      split at hf
      · rename_i cells m tight
        split at hf
        · rename_i hc
          cases hf
          obtain ⟨b, o, sp, cap, us, rfl, h1, h2, h3, h4, h5, h6⟩ := h.inv_sl
          obtain rfl : sp = none := by
            rcases h6 with h6 | h6
            · exact h6
            · omega
          refine ⟨.pointer (some ⟨b, o + i.toNat * n, none⟩), ?_, ?_⟩
          · simp [Instr.indexAt, asIntOf, run_undA hu, run_szOf hn, hc, add_addr]
          · exact .clean (.vref h3 h4 h5)
        · cases hf
      · rename_i b off m cap ver
        split at hf
        · rename_i hc
          cases hf
          obtain ⟨x, o, cp, rfl, h1, h2, h3, h4, h5⟩ := h.inv_rsl
          have ho : o = off := by
            rcases h4 with h4 | h4
            · omega
            · exact h4
          subst ho
          refine ⟨.pointer (some ⟨x, o + i.toNat * n, none⟩), ?_, .ref h1 fun c i hc hv => (h5 c i hc hv).1⟩
          simp [Instr.indexAt, asIntOf, run_undA hu, run_szOf hn, hc, add_addr]
        · cases hf
      · cases hf
    · cases hf
  · cases hf
theorem bytes_get {s : ByteArray} {l : List UInt8} (h : s.data.toList = l) (i : Nat) : s[i]? = l[i]? := by
  subst h
  rw [Array.getElem?_toList]
  cases h : s.data[i]? with
  | none =>
    rw [ByteArray.getElem?_ge' s i (by rw [Array.getElem?_eq_none_iff] at h; exact Nat.not_lt.2 h)]
  | some x =>
    obtain ⟨hlt, rfl⟩ := Array.getElem?_eq_some_iff.1 h
    rw [ByteArray.getElem?_lt' s i hlt]
    rfl
theorem bytes_size {s : ByteArray} {l : List UInt8} (h : s.data.toList = l) : s.size = l.length := by
  subst h; exact (Array.length_toList).symm
theorem index_sound {hp : Array Obj} {t : TypeId} {a ix r : AV} {v i' : Value} (h : RepV K bs hp a v) (hi : RepV K bs hp ix i') (hf : indexA P t a ix = some r) :
    ∃ v', (Instr.index t v i').run P w = .ok v' w ∧ RepV K bs hp r v' := by
  unfold indexA at hf
  split at hf
  · rename_i k i len e cs hu
    have := hi.inv_int; subst this
    split at hf
    · rename_i n hn
      split at hf
      · rename_i hc
        obtain ⟨vs, rfl, h1⟩ := h.inv_agg
        obtain ⟨v', hr, hR⟩ := part_sound (w := w) h1 hf
        exact ⟨v', by simp [Instr.index, asIntOf, run_undA hu, run_szOf hn, hc, hr], hR⟩
      · cases hf
    · cases hf
  · rename_i k i s hu
    have := hi.inv_int; subst this
    obtain ⟨t', rfl, ht⟩ := h.inv_str
    split at hf
    · rename_i h0
      split at hf
      · rename_i b hb
        cases hf
        refine ⟨.int .u8 b.toNat, ?_, .clean (.int _ _)⟩
        simp [Instr.index, asIntOf, run_undA hu, h0, bytes_get ht, hb]
      · cases hf
    · cases hf
  · cases hf

theorem bound_sound {hp : Array Obj} {a : AV} {v : Value} {m n : Nat} {code : BoundsCode} (h : RepV K bs hp a v) (hb : boundA a m = some n) : (Instr.sliceBound v m code).run P w = .ok n w ∧ n ≤ m ∧ ∃ k i, a = .int k i ∧ i.toNat = n := by
  unfold boundA at hb
  split at hb
  · rename_i k i
    split at hb
    · rename_i hc
      cases hb
      have := h.inv_int; subst this
      exact ⟨by simp [Instr.sliceBound, asIntOf, hc], by omega, k, i, rfl, rfl⟩
    · cases hb
  · cases hb
/-- Optional operands. -/
def RepO (K : KS) (bs : List AB) (hp : Array Obj) : Option AV → Option Value → Prop
  | none, none => True
  | some a, some v => RepV K bs hp a v
  | _, _ => False
theorem bounds_sound {hp : Array Obj} {isS : Bool} {len cap : Nat} {lo hi mx : Option AV} {lo' hi' mx' : Option Value} (h1 : RepO K bs hp lo lo') (h2 : RepO K bs hp hi hi') (h3 : RepO K bs hp mx mx') {l h m : Nat}
    (hb : boundsA len cap lo hi mx = some (l, h, m)) : (Instr.sliceBounds isS len cap lo' hi' mx').run P w = .ok (l, h, m) w ∧ l ≤ h ∧ (hi.isSome = true → h ≤ m) ∧ m ≤ cap ∧ (mx = none → m = cap) ∧ (hi = none → h = len) ∧ (∀ v, mx = some v → ∃ k i, v = .int k i ∧ i.toNat = m) := by
  unfold boundsA at hb
  cases mx with
  | none =>
    cases mx' with
    | some _ => simp [RepO] at h3
    | none =>
      simp only at hb
      cases hi with
      | none =>
        cases hi' with
        | some _ => simp [RepO] at h2
        | none =>
          simp only [Option.isNone_none, if_true] at hb
          cases lo with
          | none =>
            cases lo' with
            | some _ => simp [RepO] at h1
            | none =>
              simp only [Option.some.injEq, Prod.mk.injEq] at hb
              obtain ⟨rfl, rfl, rfl⟩ := hb
              exact ⟨by simp [Instr.sliceBounds], by omega, by simp, Nat.le_refl _, fun _ => rfl, fun _ => rfl, fun v hv => by cases hv⟩
          | some a =>
            cases lo' with
            | none => simp [RepO] at h1
            | some v =>
              simp only at hb
              cases hb1 : boundA a len with
              | none => simp [hb1] at hb
              | some l1 =>
                simp only [hb1, Option.some.injEq, Prod.mk.injEq] at hb
                obtain ⟨rfl, rfl, rfl⟩ := hb
                obtain ⟨r1, r2, _⟩ := bound_sound (P := P) (w := w) (code := .sliceB) h1 hb1
                exact ⟨by simp [Instr.sliceBounds, r1], by omega, by simp, Nat.le_refl _, fun _ => rfl, fun _ => rfl, fun v hv => by cases hv⟩
      | some b =>
        cases hi' with
        | none => simp [RepO] at h2
        | some vb =>
          simp only at hb
          cases hb2 : boundA b cap with
          | none => simp [hb2] at hb
          | some h0 =>
            simp only [hb2] at hb
            obtain ⟨r1, r2, _⟩ := bound_sound (P := P) (w := w) (code := if isS then BoundsCode.sliceAcap else .sliceAlen) h2 hb2
            cases lo with
            | none =>
              cases lo' with
              | some _ => simp [RepO] at h1
              | none =>
                simp only [Option.some.injEq, Prod.mk.injEq] at hb
                obtain ⟨rfl, rfl, rfl⟩ := hb
                exact ⟨by simp [Instr.sliceBounds, r1], by omega, fun _ => r2, Nat.le_refl _, fun _ => rfl, fun e => (by cases e), fun v hv => by cases hv⟩
            | some a =>
              cases lo' with
              | none => simp [RepO] at h1
              | some v =>
                simp only at hb
                cases hb1 : boundA a h0 with
                | none => simp [hb1] at hb
                | some l1 =>
                  simp only [hb1, Option.some.injEq, Prod.mk.injEq] at hb
                  obtain ⟨rfl, rfl, rfl⟩ := hb
                  obtain ⟨r3, r4, _⟩ := bound_sound (P := P) (w := w) (code := .sliceB) h1 hb1
                  exact ⟨by simp [Instr.sliceBounds, r1, r3], by omega, fun _ => r2, Nat.le_refl _, fun _ => rfl, fun e => (by cases e), fun v hv => by cases hv⟩
  | some c =>
    cases mx' with
    | none => simp [RepO] at h3
    | some vc =>
      simp only at hb
      cases hb3 : boundA c cap with
      | none => simp [hb3] at hb
      | some m0 =>
        simp only [hb3] at hb
        obtain ⟨q1, q2, k, i, rfl, q3⟩ := bound_sound (P := P) (w := w) (code := if isS then BoundsCode.slice3Acap else .slice3Alen) h3 hb3
        cases hi with
        | none => simp at hb
        | some b =>
          cases hi' with
          | none => simp [RepO] at h2
          | some vb =>
            simp only at hb
            cases hb2 : boundA b m0 with
            | none => simp [hb2] at hb
            | some h0 =>
              simp only [hb2] at hb
              obtain ⟨r1, r2, _⟩ := bound_sound (P := P) (w := w) (code := .slice3B) h2 hb2
              cases lo with
              | none =>
                cases lo' with
                | some _ => simp [RepO] at h1
                | none =>
                  simp only [Option.some.injEq, Prod.mk.injEq] at hb
                  obtain ⟨rfl, rfl, rfl⟩ := hb
                  exact ⟨by simp [Instr.sliceBounds, q1, r1], by omega, fun _ => r2, q2, fun e => (by cases e), fun e => (by cases e), fun v hv => by cases hv; exact ⟨k, i, rfl, q3⟩⟩
              | some a =>
                cases lo' with
                | none => simp [RepO] at h1
                | some v =>
                  simp only at hb
                  cases hb1 : boundA a h0 with
                  | none => simp [hb1] at hb
                  | some l1 =>
                    simp only [hb1, Option.some.injEq, Prod.mk.injEq] at hb
                    obtain ⟨rfl, rfl, rfl⟩ := hb
                    obtain ⟨r3, r4, _⟩ := bound_sound (P := P) (w := w) (code := .slice3C) h1 hb1
                    exact ⟨by simp [Instr.sliceBounds, q1, r1, r3], by omega, fun _ => r2, q2, fun e => (by cases e), fun e => (by cases e), fun v hv => by cases hv; exact ⟨k, i, rfl, q3⟩⟩
end ops
end Go.Proofs.Ytbebcbcnibfbhaa.Ab
