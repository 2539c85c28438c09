import Derived.Test.YtejpjkkkknmjkaaF4
/- Over the engine, fifth text: the tree of a root with one file; the law AccessOthers. -/
namespace Go.Proofs.Ytejpjkkkknmjkaa.Ab
open Go Go.RowKit

def node0 : NodeS := ⟨0, 0, 0, 0, 0, 0, 0, 0, 0, 0, 0, 0, .sl0, [], fun _ => 0, [], .sl0, [], 0, 0⟩
def rootS : NodeS := ⟨2, 0, 493, 0, 0, 2, 5, 0, 5, 0, 5, 0, .sl0, [], fun _ => 0, [], .sl [.str [102], .int .i64 2, .int .u64 3] 1 true, [⟨[102], 2, 3⟩], 1, 4⟩
def fileS (mode user group : Int) (data : AV) (bytes : List Int) : NodeS := ⟨1, 1, mode, user, group, 1, 0, 0, 0, 0, 0, 0, data, bytes, fun _ => 0, [], .sl0, [], 0, 0⟩
set_option maxRecDepth 100000
set_option maxHeartbeats 4000000 in
theorem with_c (n : Nat) (from_ : FuncId) (h : H) (mode user group : Int) : evCall TE (n + 6) from_ (.fn 9 [] []) [.int .u32 mode, .int .u32 user, .int .u32 group, .str [120]] h =
    some (.ret (.agg [.sl (nodesA [node0, rootS, fileS mode user group (.sl [.int .u8 120] 1 false) [120]]) 3 false, .int .u32 2]), h) := by
  refine call_clean (fn := Try.f9) rfl Try.func9 rfl rfl rfl rfl rfl (Nat.le_of_ble_eq_true rfl) ?_
  conv => whnf
  refine call_raw (fn := Try.f15) rfl Try.func15 rfl rfl (Nat.le_of_ble_eq_true rfl) ?_
  conv => whnf
  have ht : evCall TE (n + 4) 15 (.fn 20 [] []) [.agg [.int .u32 5, .int .u32 0]] = fun h => some (.ret (.bool true), h) := by
    funext h
    kernel_rfl
  refine ⟨_, _, congrFun ht _, ?_⟩
  conv => whnf
  kernel_rfl
def treeW (mode user group : Int) : List NodeS := [node0, rootS, fileS mode user group (.sl [.int .u8 120] 1 false) [120]]
theorem lives_c (n : Nat) (from_ : FuncId) (h : H) : evCall TE (n + 20) from_ (.fn 6 [] []) [] h = some (.ret (.bool true), h) := by
  skip
  kernel_rfl
def othS (mode user : Int) (a b : Int) (i : Int) : ST :=
  ⟨(((((RG.empty 60).put 10 (.int .u32 i)).put 9 (.ref 2 0 0)).put 8 (.ref 1 0 0)).put 7 (.ref 0 0 0)).put 0 (.int .u32 mode),
    ⟨[.cells [.sl (nodesA (treeW a 5 6)) 3 false, .int .u32 2] ⟨false, 0, false, true⟩, .cells [.sl (nodesA (treeW b 5 6)) 3 false, .int .u32 2] ⟨false, 0, false, true⟩, .cells [.int .u32 user, .int .u32 9, .sl0] ⟨false, 0, false, true⟩], []⟩⟩
theorem fileW_ok (mode user group : Int) : (fileS mode user group (.sl [.int .u8 120] 1 false) [120]).ok := ⟨.inr ⟨_, rfl⟩, .inl ⟨rfl, rfl⟩⟩
theorem rootS_ok : rootS.ok := ⟨.inl ⟨rfl, rfl⟩, .inr ⟨_, rfl⟩⟩
theorem cred_ok (u g : Int) : CredS.ok ⟨u, g, .sl0, []⟩ := ⟨.inl ⟨rfl, rfl⟩, Nat.zero_le _⟩
theorem may_oth {a u i : Int} (hu0 : (u == 0) = false) (hu5 : (u == 5) = false) (h1 : 1 ≤ i) (h8 : i < 8) : mayX (fileS a 5 6 (.sl [.int .u8 120] 1 false) [120]) ⟨u, 9, .sl0, []⟩ i = (band .u32 (shr a 0) i == i) := by
  unfold mayX
  rw [decide_eq_false (by omega), decide_eq_false (by omega), hu0]
  have h5 : (u == (fileS a 5 6 (.sl [.int .u8 120] 1 false) [120]).user) = false := hu5
  rw [h5]
  rfl
theorem band_bv (a b : Int) : band .u32 a b = ((BitVec.ofInt 32 a &&& BitVec.ofInt 32 b).toNat : Int) := by
  unfold band
  have := (BitVec.ofInt 32 a &&& BitVec.ofInt 32 b).isLt
  exact wrapu32 (by omega) (by have : (BitVec.ofInt IntKind.u32.bits a &&& BitVec.ofInt IntKind.u32.bits b).toNat < 2 ^ 32 := this; omega)
theorem bor_bv (a b : Int) : bor .u32 a b = ((BitVec.ofInt 32 a ||| BitVec.ofInt 32 b).toNat : Int) := by
  unfold bor
  have := (BitVec.ofInt 32 a ||| BitVec.ofInt 32 b).isLt
  exact wrapu32 (by omega) (by have : (BitVec.ofInt IntKind.u32.bits a ||| BitVec.ofInt IntKind.u32.bits b).toNat < 2 ^ 32 := this; omega)
theorem ofInt_toNat (b : BitVec 32) : BitVec.ofInt 32 (b.toNat : Int) = b := by
  rw [BitVec.ofInt_natCast]; simp
theorem shr0 (a : Int) : shr a 0 = a := by
  unfold shr
  show a.fdiv (2 ^ 0) = a
  rw [Int.pow_zero, Int.fdiv_one]
theorem low_i {i : Int} (h1 : 1 ≤ i) (h8 : i < 8) : BitVec.ofInt 32 511 &&& BitVec.ofInt 32 i = BitVec.ofInt 32 i ∧ BitVec.ofInt 32 7 &&& BitVec.ofInt 32 i = BitVec.ofInt 32 i ∧ BitVec.ofInt 32 504 &&& BitVec.ofInt 32 i = 0#32 := by
  obtain h | h | h | h | h | h | h : i = 1 ∨ i = 2 ∨ i = 3 ∨ i = 4 ∨ i = 5 ∨ i = 6 ∨ i = 7 := by omega
  all_goals subst h; decide
theorem bits_a (mode i : Int) (h1 : 1 ≤ i) (h8 : i < 8) : band .u32 (shr (band .u32 mode 511) 0) i = band .u32 mode i := by
  rw [shr0, band_bv, band_bv, ofInt_toNat, BitVec.and_assoc, (low_i h1 h8).1, band_bv]
theorem bits_b (mode more i : Int) (h1 : 1 ≤ i) (h8 : i < 8) : band .u32 (shr (bor .u32 (band .u32 mode 7) (band .u32 more 504)) 0) i = band .u32 mode i := by
  rw [shr0, band_bv, bor_bv, ofInt_toNat, band_bv, band_bv, ofInt_toNat, ofInt_toNat]
  have e : (BitVec.ofInt 32 mode &&& BitVec.ofInt 32 7 ||| BitVec.ofInt 32 more &&& BitVec.ofInt 32 504) &&& BitVec.ofInt 32 i = BitVec.ofInt 32 mode &&& (BitVec.ofInt 32 7 &&& BitVec.ofInt 32 i) ||| BitVec.ofInt 32 more &&& (BitVec.ofInt 32 504 &&& BitVec.ofInt 32 i) := by
    ext j hj
    simp only [BitVec.getElem_and, BitVec.getElem_or]
    cases (BitVec.ofInt 32 mode)[j] <;> cases (BitVec.ofInt 32 more)[j] <;> cases (BitVec.ofInt 32 i)[j] <;> simp
  rw [e, (low_i h1 h8).2.1, (low_i h1 h8).2.2]
  have z : BitVec.ofInt 32 more &&& 0#32 = 0#32 := by simp
  rw [z, BitVec.or_zero, band_bv]
set_option maxHeartbeats 4000000 in
theorem others_c (n : Nat) (from_ : FuncId) (h : H) (mode more user : Int) (hus : 0 ≤ user) : evCall TE (n + 30) from_ (.fn 4 [] []) [.int .u32 mode, .int .u32 more, .int .u32 user] h = some (.ret (.bool true), h) := by
  refine call_clean (fn := Try.f4) rfl Try.func4 rfl rfl rfl rfl rfl (Nat.le_of_ble_eq_true rfl) ?_
  conv => whnf
  refine ⟨_, _, with_c (n + 23) _ _ _ _ _, ?_⟩
  conv => whnf
  refine ⟨_, _, with_c (n + 23) _ _ _ _ _, ?_⟩
  conv => whnf
  obtain ⟨u, hu⟩ : ∃ u, IntKind.wrap .u32 (7 + user.tmod 1000) = u := ⟨_, rfl⟩
  have hub : 7 ≤ u ∧ u < 1007 := by
    rw [← hu, Int.tmod_eq_emod_of_nonneg hus, IntKind.wrap_u32]
    omega
  have hu0 : (u == 0) = false := by
    have : u ≠ 0 := by omega
    simpa using this
  have hu5 : (u == 5) = false := by
    have : u ≠ 5 := by omega
    simpa using this
  refine ⟨8, Nat.le_of_ble_eq_true rfl, ?_⟩
  refine rounds_ind (othS mode u (band .u32 mode 511) (bor .u32 (band .u32 mode 7) (band .u32 more 504))) (fun i => 1 ≤ i ∧ i ≤ 8) (fun i => (8 - i).toNat) ?_ _ 1 _ ⟨by omega, by omega⟩ (by decide) (by rw [← hu]; kernel_rfl)
  intro i m' hI ih
  conv => whnf
  cases h1 : decide (i < 8) with
  | false =>
    have hma := fun (f : FuncId) (h : H) => may_some (n + 25) f h _ (treeW (band .u32 mode 511) 5 6) (.inr ⟨false, rfl⟩) 2 2 ⟨0, 0, .sl0, []⟩ 6 (cred_ok _ _) _ rfl rfl (fileW_ok _ _ _)
    have hmb := fun (f : FuncId) (h : H) => may_some (n + 25) f h _ (treeW (bor .u32 (band .u32 mode 7) (band .u32 more 504)) 5 6) (.inr ⟨false, rfl⟩) 2 1 ⟨0, 0, .sl0, []⟩ 7 (cred_ok _ _) _ rfl rfl rootS_ok
    conv => whnf
    refine ⟨_, _, hma _ _, ?_⟩
    conv => whnf
    refine ⟨_, _, hmb _ _, ?_⟩
    conv => whnf
    refine ⟨_, _, lives_c (n + 9) _ _, ?_⟩
    conv => whnf
    rfl
  | true =>
    have h1 := of_decide_eq_true h1
    have hma := fun (f : FuncId) (h : H) => may_some (n + 25) f h _ (treeW (band .u32 mode 511) 5 6) (.inr ⟨false, rfl⟩) 2 2 ⟨u, 9, .sl0, []⟩ i (cred_ok _ _) _ rfl rfl (fileW_ok _ _ _)
    have hmb := fun (f : FuncId) (h : H) => may_some (n + 25) f h _ (treeW (bor .u32 (band .u32 mode 7) (band .u32 more 504)) 5 6) (.inr ⟨false, rfl⟩) 2 2 ⟨u, 9, .sl0, []⟩ i (cred_ok _ _) _ rfl rfl (fileW_ok _ _ _)
    rw [may_oth hu0 hu5 hI.1 h1, bits_a mode i hI.1 h1] at hma
    rw [may_oth hu0 hu5 hI.1 h1, bits_b mode more i hI.1 h1] at hmb
    obtain ⟨e, he⟩ : ∃ e, (band .u32 mode i == i) = e := ⟨_, rfl⟩
    rw [he] at hma hmb
    conv => whnf
    refine ⟨_, _, hma _ _, rfl, ?_⟩
    conv => whnf
    refine ⟨_, _, hmb _ _, rfl, ?_⟩
    conv => whnf
    have hw : IntKind.wrap .u32 (i + 1) = i + 1 := wrapu32 (by omega) (by omega)
    unfold band at he
    cases e with
    | false =>
      conv => whnf
      refine ⟨_, _, hma _ _, rfl, ?_⟩
      conv => whnf
      refine ⟨by kernel_rfl, ?_⟩
      conv => whnf
      rw [he]
      conv => whnf
      exact ih (IntKind.wrap .u32 (i + 1)) _ (by rw [hw]; omega) (by rw [hw]; omega) (by kernel_rfl)
    | true =>
      conv => whnf
      refine ⟨_, _, hma _ _, rfl, ?_⟩
      conv => whnf
      refine ⟨by kernel_rfl, ?_⟩
      conv => whnf
      rw [he]
      conv => whnf
      exact ih (IntKind.wrap .u32 (i + 1)) _ (by rw [hw]; omega) (by rw [hw]; omega) (by kernel_rfl)
end Go.Proofs.Ytejpjkkkknmjkaa.Ab
