import Derived.Test.YtbebcbcnibfbhaaF3
/- Over the engine: sums of bytes; the law CodecSums. -/
namespace Go.Proofs.Ytbebcbcnibfbhaa.Ab
open Go Go.RowKit

set_option maxRecDepth 100000
def bxor (k : IntKind) (a b : Int) : Int := IntKind.wrap k ((BitVec.ofInt k.bits a ^^^ BitVec.ofInt k.bits b).toNat : Int)
def sh1 (s : Int) : Int := s.fdiv (2 ^ (min (Int.toNat 1) 32))
def band1 (s : Int) : Int := IntKind.wrap .u32 ((BitVec.ofInt IntKind.u32.bits s &&& BitVec.ofInt IntKind.u32.bits 1).toNat : Int)
def step1 (s : Int) : Int := bxor .u32 (sh1 s) (IntKind.wrap .u32 ((BitVec.ofInt IntKind.u32.bits 3988292384 &&& BitVec.ofInt IntKind.u32.bits (IntKind.wrap .u32 (0 - band1 s))).toNat : Int))
def step8 (s : Int) : Int := step1 (step1 (step1 (step1 (step1 (step1 (step1 (step1 s)))))))
def sumL (s : Int) : List Int → Int
  | [] => s
  | b :: l => sumL (step8 (bxor .u32 s (IntKind.wrap .u32 b))) l
theorem sum_take1 (s : Int) : ∀ (l : List Int) (i : Nat) (x : Int), l[i]? = some x → sumL s (l.take (i + 1)) = step8 (bxor .u32 (sumL s (l.take i)) (IntKind.wrap .u32 x))
  | [], i, x, h => by simp at h
  | y :: l, 0, x, h => by
    simp at h
    subst h
    simp [sumL]
  | y :: l, i + 1, x, h => by
    simp at h
    simp only [List.take_succ_cons, sumL]
    exact sum_take1 _ l i x h
def bnot (s : Int) : Int := IntKind.wrap .u32 ((BitVec.ofInt IntKind.u32.bits (if IntKind.u32.signed then -1 else IntKind.u32.max) ^^^ BitVec.ofInt IntKind.u32.bits s).toNat : Int)
def sumS (l : List Int) (t : Bool) (p : Int × Int) : ST :=
  ⟨RG.of 29 [(8, .int .i64 p.1), (7, .int .i64 l.length), (6, .sl (numsA .u8 l) l.length t), (3, .int .u32 p.2)], ⟨[], []⟩⟩
set_option maxHeartbeats 2000000 in
theorem sum_c (m : Nat) (from_ : FuncId) (h : H) (l : List Int) (t : Bool) (hl : l.length ≤ 4611686018427387900) : evCall TE (m + 1) from_ (.fn 16 [] []) [.sl (numsA .u8 l) l.length t] h = some (.ret (.int .u32 (bnot (sumL 4294967295 l))), h) := by
  refine call_clean (fn := Try.f16) rfl Try.func16 rfl rfl rfl rfl rfl (Nat.le_of_ble_eq_true rfl) ?_
  conv => whnf
  refine ⟨l.length + 1, by show l.length + 1 ≤ 4611686018427387904; omega, ?_⟩
  refine rounds_ind (sumS l t) (fun p => 0 ≤ p.1 ∧ p.1 ≤ l.length ∧ p.2 = sumL 4294967295 (l.take p.1.toNat)) (fun p => (l.length - p.1).toNat) ?_ _ (0, 4294967295) _ ⟨by dsimp only; omega, by dsimp only; omega, rfl⟩ (by dsimp only; omega) (by kernel_rfl)
  intro p m' hI ih
  obtain ⟨i, s⟩ := p
  obtain ⟨h0, hn, hs⟩ := hI
  dsimp only at h0 hn hs ih ⊢
  conv => whnf
  cases h1 : decide (i < (l.length : Int)) with
  | false =>
    have h1 := of_decide_eq_false h1
    conv => whnf
    rw [hs, List.take_of_length_le (by omega)]
    rfl
  | true =>
    have h1 := of_decide_eq_true h1
    obtain ⟨x, hx⟩ : ∃ x, l[i.toNat]? = some x := ⟨_, List.getElem?_eq_getElem (by omega)⟩
    have hc : (numsA .u8 l)[i.toNat * 1]? = some (.int .u8 x) := by rw [Nat.mul_one, numsA, List.getElem?_map, hx]; rfl
    conv => whnf
    refine runK_ret (ev_indexSl (sz := 1) rfl rfl rfl rfl (by omega) h1) ?_
    conv => whnf
    refine runK_ret (ev_loadV (z := 1) rfl rfl rfl hc) ?_
    conv => whnf
    refine ⟨9, Nat.le_of_ble_eq_true rfl, ?_⟩
    conv => whnf
    have hw : IntKind.wrap .i64 (i + 1) = i + 1 := wrap64 (by omega) (by omega)
    refine ih (IntKind.wrap .i64 (i + 1), step8 (bxor .u32 s (IntKind.wrap .u32 x))) _ ?_ (by dsimp only; rw [hw]; omega) (by kernel_rfl)
    dsimp only
    rw [hw]
    refine ⟨by omega, by omega, ?_⟩
    rw [show (i + 1).toNat = i.toNat + 1 by omega, sum_take1 _ _ _ _ hx, hs]
def itS (s : Int) : Nat → Int
  | 0 => s
  | k + 1 => step1 (itS s k)
theorem xor_nat (a b : Int) : bxor .u32 a b = (((BitVec.ofInt 32 a) ^^^ (BitVec.ofInt 32 b)).toNat : Int) := by
  unfold bxor
  have := (BitVec.ofInt 32 a ^^^ BitVec.ofInt 32 b).isLt
  exact wrapu32 (by omega) (by have : (BitVec.ofInt IntKind.u32.bits a ^^^ BitVec.ofInt IntKind.u32.bits b).toNat < 2 ^ 32 := this; omega)
theorem xor_rng (a b : Int) : 0 ≤ bxor .u32 a b ∧ bxor .u32 a b < 4294967296 := by
  rw [xor_nat]
  have := (BitVec.ofInt 32 a ^^^ BitVec.ofInt 32 b).isLt
  omega
theorem band1_cases (s : Int) : band1 s = 0 ∨ band1 s = 1 := by
  unfold band1
  have h : (BitVec.ofInt IntKind.u32.bits s &&& BitVec.ofInt IntKind.u32.bits 1).toNat ≤ 1 := by
    rw [BitVec.toNat_and]
    exact Nat.and_le_right
  rw [wrapu32 (by omega) (by omega)]
  omega
theorem sh1_rng {s : Int} (h0 : 0 ≤ s) (h1 : s < 4294967296) : 0 ≤ sh1 s ∧ sh1 s < 4294967296 := by
  have e : sh1 s = s.fdiv 2 := rfl
  rw [e, Int.fdiv_eq_ediv_of_nonneg _ (by omega)]
  omega
theorem ofInt_nat {n : Int} (h0 : 0 ≤ n) (h1 : n < 4294967296) : ((BitVec.ofInt 32 n).toNat : Int) = n := by
  rw [BitVec.toNat_ofInt]
  omega
theorem step1_if {s : Int} (h0 : 0 ≤ s) (h1 : s < 4294967296) : step1 s = if band1 s = 1 then bxor .u32 (sh1 s) 3988292384 else sh1 s := by
  unfold step1
  rcases band1_cases s with h | h
  · rw [h, if_neg (by decide)]
    have e : IntKind.wrap .u32 ((BitVec.ofInt IntKind.u32.bits 3988292384 &&& BitVec.ofInt IntKind.u32.bits (IntKind.wrap .u32 (0 - 0))).toNat : Int) = 0 := by decide
    rw [e, xor_nat]
    have z : BitVec.ofInt 32 0 = 0#32 := rfl
    rw [z, BitVec.xor_zero]
    obtain ⟨a, b⟩ := sh1_rng h0 h1
    exact ofInt_nat a b
  · rw [h, if_pos rfl]
    have e : IntKind.wrap .u32 ((BitVec.ofInt IntKind.u32.bits 3988292384 &&& BitVec.ofInt IntKind.u32.bits (IntKind.wrap .u32 (0 - 1))).toNat : Int) = 3988292384 := by decide
    rw [e]
theorem step1_rng (s : Int) : 0 ≤ step1 s ∧ step1 s < 4294967296 := xor_rng _ _
def refS (l : List Int) (t : Bool) (p : Int × Int) : ST :=
  ⟨RG.of 33 [(4, .int .i64 p.1), (3, .int .u32 p.2), (0, .sl (numsA .u8 l) l.length t)], ⟨[], []⟩⟩
def refS2 (l : List Int) (t : Bool) (i : Int) (p : Int × Int) : ST :=
  ⟨RG.of 33 [(5, .int .i64 p.1), (4, .int .i64 i), (3, .int .u32 p.2), (0, .sl (numsA .u8 l) l.length t)], ⟨[], []⟩⟩
set_option maxHeartbeats 2000000 in
theorem refsum_c (m : Nat) (from_ : FuncId) (h : H) (l : List Int) (t : Bool) (hl : l.length ≤ 4611686018427387900) : evCall TE (m + 1) from_ (.fn 17 [] []) [.sl (numsA .u8 l) l.length t] h = some (.ret (.int .u32 (bnot (sumL 4294967295 l))), h) := by
  refine call_clean (fn := Try.f17) rfl Try.func17 rfl rfl rfl rfl rfl (Nat.le_of_ble_eq_true rfl) ?_
  conv => whnf
  refine ⟨l.length + 1, by show l.length + 1 ≤ 4611686018427387904; omega, ?_⟩
  refine rounds_ind (refS l t) (fun p => 0 ≤ p.1 ∧ p.1 ≤ l.length ∧ p.2 = sumL 4294967295 (l.take p.1.toNat)) (fun p => (l.length - p.1).toNat) ?_ _ (0, 4294967295) _ ⟨by dsimp only; omega, by dsimp only; omega, rfl⟩ (by dsimp only; omega) (by kernel_rfl)
  intro p m' hI ih
  obtain ⟨i, s⟩ := p
  obtain ⟨h0, hn, hs⟩ := hI
  dsimp only at h0 hn hs ih ⊢
  conv => whnf
  cases h1 : decide (i < (l.length : Int)) with
  | false =>
    have h1 := of_decide_eq_false h1
    conv => whnf
    rw [hs, List.take_of_length_le (by omega)]
    rfl
  | true =>
    have h1 := of_decide_eq_true h1
    obtain ⟨x, hx⟩ : ∃ x, l[i.toNat]? = some x := ⟨_, List.getElem?_eq_getElem (by omega)⟩
    have hc : (numsA .u8 l)[i.toNat * 1]? = some (.int .u8 x) := by rw [Nat.mul_one, numsA, List.getElem?_map, hx]; rfl
    conv => whnf
    refine runK_ret (ev_indexSl (sz := 1) rfl rfl rfl rfl (by omega) h1) ?_
    conv => whnf
    refine runK_ret (ev_loadV (z := 1) rfl rfl rfl hc) ?_
    conv => whnf
    refine ⟨9, Nat.le_of_ble_eq_true rfl, ?_⟩
    have hw : IntKind.wrap .i64 (i + 1) = i + 1 := wrap64 (by omega) (by omega)
    refine rounds_ind (refS2 l t i) (fun p => 0 ≤ p.1 ∧ p.1 ≤ 8 ∧ p.2 = itS (bxor .u32 s (IntKind.wrap .u32 x)) p.1.toNat ∧ 0 ≤ p.2 ∧ p.2 < 4294967296) (fun p => (8 - p.1).toNat) ?_ _ (0, bxor .u32 s (IntKind.wrap .u32 x)) _ ⟨by dsimp only; omega, by dsimp only; omega, rfl, xor_rng _ _⟩ (by dsimp only; omega) (by kernel_rfl)
    intro q m'' hI2 ih2
    obtain ⟨k, u⟩ := q
    obtain ⟨k0, k8, hu, u0, u1⟩ := hI2
    dsimp only at k0 k8 hu u0 u1 ih2 ⊢
    conv => whnf
    cases h2 : decide (k < 8) with
    | false =>
      have h2 := of_decide_eq_false h2
      conv => whnf
      refine ih (IntKind.wrap .i64 (i + 1), u) _ ?_ (by dsimp only; rw [hw]; omega) (by kernel_rfl)
      dsimp only
      rw [hw]
      refine ⟨by omega, by omega, ?_⟩
      rw [show (i + 1).toNat = i.toNat + 1 by omega, sum_take1 _ _ _ _ hx, ← hs, hu, show k.toNat = 8 by omega]
      rfl
    | true =>
      have h2 := of_decide_eq_true h2
      have hw2 : IntKind.wrap .i64 (k + 1) = k + 1 := wrap64 (by omega) (by omega)
      have hst := step1_if u0 u1
      have hnext : itS (bxor .u32 s (IntKind.wrap .u32 x)) (k + 1).toNat = step1 u := by
        rw [show (k + 1).toNat = k.toNat + 1 by omega, hu]
        rfl
      conv => whnf
      cases h3 : IntKind.wrap .u32 ((BitVec.ofInt IntKind.u32.bits u &&& BitVec.ofInt IntKind.u32.bits 1).toNat : Int) == 1 with
      | true =>
        have h3' : band1 u = 1 := by simpa [band1] using h3
        rw [if_pos h3'] at hst
        conv => whnf
        refine ih2 (IntKind.wrap .i64 (k + 1), bxor .u32 (sh1 u) 3988292384) _ ?_ (by dsimp only; rw [hw2]; omega) (by kernel_rfl)
        dsimp only
        rw [hw2, hnext, hst]
        exact ⟨by omega, by omega, rfl, xor_rng _ _⟩
      | false =>
        have h3' : ¬ band1 u = 1 := by simpa [band1] using h3
        rw [if_neg h3'] at hst
        conv => whnf
        refine ih2 (IntKind.wrap .i64 (k + 1), sh1 u) _ ?_ (by dsimp only; rw [hw2]; omega) (by kernel_rfl)
        dsimp only
        rw [hw2, hnext, hst]
        exact ⟨by omega, by omega, rfl, sh1_rng u0 u1⟩
end Go.Proofs.Ytbebcbcnibfbhaa.Ab
