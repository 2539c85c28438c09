import Derived.Test.YtejpjkkkknmjkaaF8
/- Over the engine: AccessEach, the plain law. -/
namespace Go.Proofs.Ytejpjkkkknmjkaa.Ab
open Go Go.RowKit

def bv (a : Int) : Nat := (BitVec.ofInt 32 a).toNat
theorem band_nat (a b : Int) : band .u32 a b = ((bv a &&& bv b : Nat) : Int) := by
  rw [band_bv, BitVec.toNat_and]
  rfl
theorem bor_nat (a b : Int) : bor .u32 a b = ((bv a ||| bv b : Nat) : Int) := by
  rw [bor_bv, BitVec.toNat_or]
  rfl
theorem bv_nat {n : Nat} (h : n < 4294967296) : bv (n : Int) = n := by
  unfold bv
  rw [BitVec.ofInt_natCast, BitVec.toNat_ofNat]
  exact Nat.mod_eq_of_lt h
theorem and_low (n w k : Nat) (h : w < 2 ^ k) : n &&& w = (n % 2 ^ k) &&& w := by
  have h1 : (n &&& w) % 2 ^ k = (n % 2 ^ k) &&& (w % 2 ^ k) := Nat.and_mod_two_pow
  have h2 : n &&& w < 2 ^ k := Nat.lt_of_le_of_lt Nat.and_le_right h
  rw [Nat.mod_eq_of_lt h2, Nat.mod_eq_of_lt h] at h1
  exact h1
theorem low3 : ∀ n : Fin 8, ∀ w : Fin 8, (((n.val &&& w.val : Nat) : Int) == (w.val : Int)) = ((!(((w.val &&& 1 : Nat) : Int) != 0) || (((n.val &&& 1 : Nat) : Int) == 1)) && (!(((w.val &&& 2 : Nat) : Int) != 0) || (((n.val &&& 2 : Nat) : Int) == 2)) && (!(((w.val &&& 4 : Nat) : Int) != 0) || (((n.val &&& 4 : Nat) : Int) == 4))) := by
  decide +kernel
theorem band_each (M : Int) {w : Int} (h1 : 1 ≤ w) (h8 : w < 8) : (band .u32 M w == w) = ((!(band .u32 w 1 != 0) || (band .u32 M 1 == 1)) && (!(band .u32 w 2 != 0) || (band .u32 M 2 == 2)) && (!(band .u32 w 4 != 0) || (band .u32 M 4 == 4))) := by
  obtain ⟨k, rfl⟩ : ∃ k : Nat, w = k := ⟨w.toNat, by omega⟩
  have hk : k < 8 := by omega
  have e1 : bv 1 = 1 := rfl
  have e2 : bv 2 = 2 := rfl
  have e4 : bv 4 = 4 := rfl
  simp only [band_nat, bv_nat (show k < 4294967296 by omega), e1, e2, e4]
  rw [and_low (bv M) k 3 hk, and_low (bv M) 1 3 (by decide), and_low (bv M) 2 3 (by decide), and_low (bv M) 4 3 (by decide)]
  exact low3 ⟨bv M % 8, Nat.mod_lt _ (by decide)⟩ ⟨k, hk⟩
theorem may_each (x : NodeS) (c : CredS) (w : Int) (h1 : 1 ≤ w) (h8 : w < 8) : mayX x c w = eachE (mayX x c) w 3 := by
  show mayX x c w = (partE (mayX x c) w 1 && partE (mayX x c) w 2 && partE (mayX x c) w 4)
  unfold partE mayX
  rw [decide_eq_false (show ¬ w < 1 by omega), decide_eq_false (show ¬ w > 7 by omega)]
  have f (a : Int) (h : 1 ≤ a) : decide (a < 1) = false := decide_eq_false (by omega)
  have g (a : Int) (h : a ≤ 7) : decide (a > 7) = false := decide_eq_false (by omega)
  rw [f 1 (by decide), f 2 (by decide), f 4 (by decide), g 1 (by decide), g 2 (by decide), g 4 (by decide)]
  cases c.user == 0 with
  | true =>
    simp only [cond_true, Bool.not_false, Bool.true_and]
    have a1 : (band .u32 1 1 == 0) = false := rfl
    have a2 : (band .u32 2 1 == 0) = true := rfl
    have a4 : (band .u32 4 1 == 0) = true := rfl
    rw [a1, a2, a4]
    unfold bne
    cases band .u32 w 1 == 0 <;> simp
  | false =>
    simp only [cond_false, Bool.not_false, Bool.true_and]
    cases c.user == x.user with
    | true => simp only [cond_true]; exact band_each _ h1 h8
    | false =>
      simp only [cond_false]
      cases inS c x.group with
      | true => simp only [cond_true]; exact band_each _ h1 h8
      | false => simp only [cond_false]; exact band_each _ h1 h8
theorem none_each (w : Int) (h1 : 1 ≤ w) (h8 : w < 8) : (fun _ : Int => false) w = eachE (fun _ => false) w 3 := by
  obtain rfl | rfl | rfl | rfl | rfl | rfl | rfl : w = 1 ∨ w = 2 ∨ w = 3 ∨ w = 4 ∨ w = 5 ∨ w = 6 ∨ w = 7 := by omega
  all_goals rfl

def stG (asked o bit : Int) (b : Bool) : Int := bif (band .u32 asked bit != 0) && b then bor .u32 o bit else o
def stN (n o bit : Nat) (b : Bool) : Nat := bif ((n &&& bit) != 0) && b then o ||| bit else o
def gG (asked : Int) (b1 b2 b3 b4 b5 b6 : Bool) : Int := stG asked (stG asked (stG asked (stG asked (stG asked (stG asked 0 1 b1) 2 b2) 4 b3) 8 b4) 16 b5) 32 b6
def gN (n : Nat) (b1 b2 b3 b4 b5 b6 : Bool) : Nat := stN n (stN n (stN n (stN n (stN n (stN n 0 1 b1) 2 b2) 4 b3) 8 b4) 16 b5) 32 b6
theorem bits_g (x : NodeS) (c : CredS) (asked : Int) : bitsX x c asked = gG asked (mayX x c 4) (mayX x c (bif x.kind == 2 then 1 else 0)) (mayX x c (bif x.kind == 2 then 3 else 2)) (mayX x c (bif x.kind == 2 then 3 else 2)) (mayX x c (bif x.kind == 2 then 3 else 0)) (mayX x c (bif x.kind == 2 then 0 else 1)) := by
  have e : ∀ k : Bool, (bif k then (4 : Int) else 4) = 4 := by intro k; cases k <;> rfl
  have h : bitsX x c asked = gG asked (mayX x c (bif x.kind == 2 then 4 else 4)) (mayX x c (bif x.kind == 2 then 1 else 0)) (mayX x c (bif x.kind == 2 then 3 else 2)) (mayX x c (bif x.kind == 2 then 3 else 2)) (mayX x c (bif x.kind == 2 then 3 else 0)) (mayX x c (bif x.kind == 2 then 0 else 1)) := rfl
  rw [h, e]
theorem st_nat (asked : Int) {o bit : Nat} (ho : o < 64) (hb : bit < 64) (b : Bool) : stG asked o bit b = (stN (bv asked % 64) o bit b : Nat) ∧ stN (bv asked % 64) o bit b < 64 := by
  unfold stG stN
  rw [band_nat, bor_nat, bv_nat (show bit < 4294967296 by omega), bv_nat (show o < 4294967296 by omega), and_low (bv asked) bit 6 hb]
  have e : ((((bv asked % 2 ^ 6) &&& bit : Nat) : Int) != 0) = (((bv asked % 64) &&& bit) != 0) := by
    unfold bne
    congr 1
    rw [Bool.eq_iff_iff, beq_iff_eq, beq_iff_eq]
    show ((((bv asked % 64) &&& bit : Nat) : Int) = 0) ↔ _
    omega
  rw [e]
  have hor : o ||| bit < 64 := Nat.or_lt_two_pow (n := 6) ho hb
  cases (((bv asked % 64) &&& bit) != 0) && b
  · exact ⟨rfl, ho⟩
  · exact ⟨rfl, hor⟩
theorem g_nat (asked : Int) (b1 b2 b3 b4 b5 b6 : Bool) : gG asked b1 b2 b3 b4 b5 b6 = (gN (bv asked % 64) b1 b2 b3 b4 b5 b6 : Nat) := by
  unfold gG gN
  obtain ⟨h1, l1⟩ := st_nat asked (o := 0) (bit := 1) (by decide) (by decide) b1
  obtain ⟨h2, l2⟩ := st_nat asked l1 (bit := 2) (by decide) b2
  obtain ⟨h3, l3⟩ := st_nat asked l2 (bit := 4) (by decide) b3
  obtain ⟨h4, l4⟩ := st_nat asked l3 (bit := 8) (by decide) b4
  obtain ⟨h5, l5⟩ := st_nat asked l4 (bit := 16) (by decide) b5
  obtain ⟨h6, _⟩ := st_nat asked l5 (bit := 32) (by decide) b6
  rw [← h6, ← h5, ← h4, ← h3, ← h2, ← h1]
  rfl
theorem g_and : ∀ n : Fin 64, ∀ b1 b2 b3 b4 b5 b6 : Bool, gN n.val b1 b2 b3 b4 b5 b6 = (gN 63 b1 b2 b3 b4 b5 b6 &&& n.val) ∧ gN 63 b1 b2 b3 b4 b5 b6 < 64 ∧ ((gN 63 b1 b2 b3 b4 b5 b6 &&& 1) == 1) = b1 := by
  decide +kernel
theorem all_63 (b1 b2 b3 b4 b5 b6 : Bool) : gG 4294967295 b1 b2 b3 b4 b5 b6 = (gN 63 b1 b2 b3 b4 b5 b6 : Nat) := g_nat 4294967295 b1 b2 b3 b4 b5 b6
theorem bits_top (x : NodeS) (c : CredS) : bitsX x c 4294967295 ≤ 63 := by
  rw [bits_g, all_63]
  have := (g_and 0 (mayX x c 4) (mayX x c (bif x.kind == 2 then 1 else 0)) (mayX x c (bif x.kind == 2 then 3 else 2)) (mayX x c (bif x.kind == 2 then 3 else 2)) (mayX x c (bif x.kind == 2 then 3 else 0)) (mayX x c (bif x.kind == 2 then 0 else 1))).2.1
  omega
theorem bits_and (x : NodeS) (c : CredS) (asked : Int) : bitsX x c asked = band .u32 (bitsX x c 4294967295) asked := by
  rw [bits_g, bits_g, all_63, g_nat]
  generalize mayX x c 4 = b1
  generalize mayX x c (bif x.kind == 2 then 1 else 0) = b2
  generalize mayX x c (bif x.kind == 2 then 3 else 2) = b3
  generalize mayX x c (bif x.kind == 2 then 3 else 0) = b5
  generalize mayX x c (bif x.kind == 2 then 0 else 1) = b6
  obtain ⟨h1, h2, _⟩ := g_and ⟨bv asked % 64, Nat.mod_lt _ (by decide)⟩ b1 b2 b3 b3 b5 b6
  rw [band_nat, bv_nat (by omega), h1]
  congr 1
  rw [Nat.and_comm _ (bv asked), and_low (bv asked) _ 6 h2, Nat.and_comm]
theorem bits_one (x : NodeS) (c : CredS) : (band .u32 (bitsX x c 4294967295) 1 == 1) = mayX x c 4 := by
  rw [bits_g, all_63]
  generalize mayX x c 4 = b1
  generalize mayX x c (bif x.kind == 2 then 1 else 0) = b2
  generalize mayX x c (bif x.kind == 2 then 3 else 2) = b3
  generalize mayX x c (bif x.kind == 2 then 3 else 0) = b5
  generalize mayX x c (bif x.kind == 2 then 0 else 1) = b6
  obtain ⟨_, h2, h3⟩ := g_and 0 b1 b2 b3 b3 b5 b6
  rw [band_nat, bv_nat (by omega), show bv 1 = 1 from rfl]
  refine Eq.trans ?_ h3
  generalize gN 63 b1 b2 b3 b3 b5 b6 &&& 1 = k
  rw [Bool.eq_iff_iff, beq_iff_eq, beq_iff_eq]
  omega
/-- The law, abstractly. -/
theorem each_law (m : Nat) (from_ : FuncId) (h : H) (x : AskS) (ht : x.t.ok) (hc : x.c.ok) : evCall TE (m + 30) from_ (.fn 3 [] []) [askA x] h = some (.ret (.bool true), h) := by
  cases hn : thereS x.t.ns x.n with
  | false => exact each_c m from_ h x ht hc (fun _ => false) (fun _ => 0) (fun f h what => may_none (m + 26) f h x.t.v x.t.ns ht.v x.t.gen x.n x.c what hc hn) (fun f h asked => bits_none (m + 26) f h x.t.v x.t.ns ht.v x.t.gen x.n x.c asked hc hn) none_each (by decide) (by rw [band_nat, show bv 0 = 0 from rfl, Nat.zero_and]; rfl) rfl
  | true =>
    obtain ⟨y, hy⟩ : ∃ y, x.t.ns[x.n.toNat]? = some y := by
      have hn' := hn
      unfold thereS at hn'
      rw [Bool.and_eq_true, Bool.and_eq_true, decide_eq_true_eq, decide_eq_true_eq] at hn'
      exact ⟨_, List.getElem?_eq_getElem (by omega)⟩
    have hok := (ht.ns y (List.mem_of_getElem? hy)).1
    exact each_c m from_ h x ht hc (mayX y x.c) (bitsX y x.c) (fun f h what => may_some (m + 25) f h x.t.v x.t.ns ht.v x.t.gen x.n x.c what hc y hn hy hok) (fun f h asked => bits_some (m + 24) f h x.t.v x.t.ns ht.v x.t.gen x.n x.c asked hc y hn hy hok) (may_each y x.c) (bits_top y x.c) (bits_and y x.c x.bits) (bits_one y x.c)
end Go.Proofs.Ytejpjkkkknmjkaa.Ab
