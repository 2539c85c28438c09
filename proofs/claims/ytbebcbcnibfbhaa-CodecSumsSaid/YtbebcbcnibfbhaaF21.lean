import Derived.Test.YtbebcbcnibfbhaaF20
/- Over the engine: the law CodecSums. -/
namespace Go.Proofs.Ytbebcbcnibfbhaa.Ab
open Go Go.RowKit

set_option maxRecDepth 100000
theorem lives20_c (n : Nat) (from_ : FuncId) (h : H) : evCall TE (n + 40) from_ (.fn 14 [] []) [] h = some (.ret (.bool true), h) := by
  skip
  kernel_rfl
/-- The twin of some bytes, as far as it is. -/
def twinB (l : List Int) (i : Nat) : List AV := numsA .u8 (l.take i) ++ List.replicate (l.length + 1 - i) (.int .u8 0)
def twinS (l : List Int) (t : Bool) (i : Int) : ST :=
  ⟨RG.of 28 [(4, .int .i64 i), (3, .rsl 0 0 i.toNat (some (l.length + 1)) 0), (0, .sl (numsA .u8 l) l.length t)], ⟨[.cells (twinB l i.toNat) ⟨true, 1, false, true⟩], []⟩⟩
theorem nums_len (k : IntKind) (l : List Int) : (numsA k l).length = l.length := by simp [numsA]
theorem nums_get {k : IntKind} {l : List Int} {i : Nat} {x : Int} (h : l[i]? = some x) : (numsA k l)[i]? = some (.int k x) := by rw [numsA, List.getElem?_map, h]; rfl
theorem twin_len (l : List Int) {i : Nat} (hi : i ≤ l.length) : (twinB l i).length = l.length + 1 := by
  unfold twinB
  rw [List.length_append, nums_len, List.length_take, List.length_replicate]
  omega
theorem twin_put {l : List Int} {i : Nat} {x : Int} (h : l[i]? = some x) : splice (twinB l i) i [.int .u8 x] = twinB l (i + 1) := by
  have hi := (List.getElem?_eq_some_iff.1 h).1
  rw [splice_eq _ _ _ (by rw [twin_len l (by omega)]; simp; omega)]
  unfold twinB
  have h1 : (numsA .u8 (l.take i)).length = i := by rw [nums_len, List.length_take]; omega
  rw [List.take_left' h1, List.take_add_one, h, show l.length + 1 - i = (l.length + 1 - (i + 1)) + 1 by omega, List.replicate_succ]
  rw [← List.drop_drop, List.drop_left' h1]
  simp [numsA]
theorem twin_end (l : List Int) : splice (twinB l l.length) l.length [.int .u8 77] = numsA .u8 l ++ [.int .u8 77] := by
  rw [splice_eq _ _ _ (by rw [twin_len l (Nat.le_refl _)]; simp)]
  unfold twinB
  have h1 : (numsA .u8 (l.take l.length)).length = l.length := by rw [nums_len, List.take_length]
  rw [List.take_left' h1, ← List.drop_drop, List.drop_left' h1, List.take_length]
  simp
def leftS (l : List Int) (t : Bool) (j : Int) : ST :=
  ⟨RG.of 45 [(5, .int .i64 j), (1, .sl (numsA .u8 l) l.length t), (0, .rsl 0 0 l.length (some (l.length + 1)) 0)], ⟨[.cells (numsA .u8 l ++ [.int .u8 77]) ⟨true, 1, false, false⟩, .cells [.int .u8 77] ⟨false, 1, false, true⟩], []⟩⟩
set_option maxHeartbeats 4000000 in
theorem sums_c (m : Nat) (from_ : FuncId) (h : H) (l : List Int) (t : Bool) (hl : l.length ≤ 140737488351232) : evCall TE (m + 50) from_ (.fn 4 [] []) [.sl (numsA .u8 l) l.length t] h = some (.ret (.bool true), h) := by
  refine call_clean (fn := Try.f4) rfl Try.func4 rfl rfl rfl rfl rfl (Nat.le_of_ble_eq_true rfl) ?_
  conv => whnf
  cases h1 : decide ((l.length : Int) > 200000) with
  | true =>
    conv => whnf
    refine ⟨_, _, lives20_c (m + 9) _ _, ?_⟩
    conv => whnf
  | false =>
    have h1 := of_decide_eq_false h1
    have hw1 : IntKind.wrap .i64 ((l.length : Int) + 1) = l.length + 1 := wrap64 (by omega) (by omega)
    conv => whnf
    refine call_raw (fn := Try.f15) rfl Try.func15 rfl rfl (Nat.le_of_ble_eq_true rfl) ?_
    conv => whnf
    refine runK_ret (v := .rsl 0 0 0 (some (l.length + 1)) 0) (w := .new (.cells (twinB l 0) ⟨true, 1, false, true⟩)) ?_ ?_
    · refine (ev_makeSlice (sz := 1) (by_ := 1) (k := .i64) (k' := .i64) (x := 0) (y := IntKind.wrap .i64 ((l.length : Int) + 1)) rfl rfl rfl rfl rfl rfl (by omega) (by rw [hw1]; omega) (by rw [hw1]; omega) (by rw [hw1]; omega) rfl (by decide) rfl).trans ?_
      rw [hw1, show ((l.length : Int) + 1).toNat = l.length + 1 by omega]
      rfl
    conv => whnf
    refine ⟨l.length + 1, by show l.length + 1 ≤ 4611686018427387904; omega, ?_⟩
    refine rounds_ind (twinS l t) (fun i => 0 ≤ i ∧ i ≤ l.length) (fun i => (l.length - i).toNat) ?_ _ 0 _ ⟨by omega, by omega⟩ (by omega) (by kernel_rfl)
    intro i m' hI ih
    conv => whnf
    cases h2 : decide (i < (l.length : Int)) with
    | true =>
      have h2 := of_decide_eq_true h2
      obtain ⟨x, hx⟩ : ∃ x, l[i.toNat]? = some x := ⟨_, List.getElem?_eq_getElem (by omega)⟩
      have hc : (numsA .u8 l)[i.toNat * 1]? = some (.int .u8 x) := by rw [Nat.mul_one]; exact nums_get hx
      have hw : IntKind.wrap .i64 (i + 1) = i + 1 := wrap64 (by omega) (by omega)
      conv => whnf
      refine runK_ret (ev_indexSl (sz := 1) rfl rfl rfl rfl (by omega) h2) ?_
      conv => whnf
      refine runK_ret (ev_loadV (z := 1) rfl rfl rfl hc) ?_
      conv => whnf
      have hlen := twin_len l (i := i.toNat) (by omega)
      refine runK_if ⟨by show i.toNat + 1 ≤ 140737488355328; omega, by show (i.toNat + 1) * 1 ≤ 140737488355328; omega, by decide, rfl⟩ ?_
      conv => whnf
      refine runK_if rfl (runK_if (by show i.toNat + 1 ≤ l.length + 1; omega) (runK_if ⟨rfl, by show 0 + (i.toNat + 1) * 1 ≤ (twinB l i.toNat).length; rw [hlen]; omega, .inr rfl⟩ ?_))
      conv => whnf
      refine listK_of (l' := twinB l (i.toNat + 1)) ?_ ?_
      · refine Eq.trans ?_ (twin_put hx)
        show splice (twinB l i.toNat) (0 + i.toNat * 1) [.int .u8 x] = _
        rw [Nat.zero_add, Nat.mul_one]
      conv => whnf
      have e : twinS l t (IntKind.wrap .i64 (i + 1)) = ⟨RG.of 28 [(4, .int .i64 (IntKind.wrap .i64 (i + 1))), (3, .rsl 0 0 (i.toNat + 1) (some (l.length + 1)) 0), (0, .sl (numsA .u8 l) l.length t)], ⟨[.cells (twinB l (i.toNat + 1)) ⟨true, 1, false, true⟩], []⟩⟩ := by
        unfold twinS
        rw [show (IntKind.wrap .i64 (i + 1)).toNat = i.toNat + 1 by rw [hw]; omega]
      exact ih (IntKind.wrap .i64 (i + 1)) _ (by rw [hw]; omega) (by rw [hw]; omega) (Eq.trans (by kernel_rfl) e.symm)
    | false =>
      have h2 := of_decide_eq_false h2
      obtain rfl : i = (l.length : Int) := by omega
      have hlen := twin_len l (i := l.length) (Nat.le_refl _)
      conv => whnf
      refine runK_if ⟨by show l.length + 1 ≤ 140737488355328; omega, by show (l.length + 1) * 1 ≤ 140737488355328; omega, by decide, rfl⟩ ?_
      conv => whnf
      refine runK_if rfl (runK_if (Nat.le_refl _) (runK_if ⟨rfl, by show 0 + (l.length + 1) * 1 ≤ (twinB l l.length).length; rw [hlen]; omega, .inr rfl⟩ ?_))
      conv => whnf
      refine listK_of (l' := numsA .u8 l ++ [.int .u8 77]) ?_ ?_
      · refine Eq.trans ?_ (twin_end l)
        show splice (twinB l l.length) (0 + l.length * 1) [.int .u8 77] = _
        rw [Nat.zero_add, Nat.mul_one]
      conv => whnf
      refine runK_ret (v := .rsl 0 0 l.length (some (l.length + 1)) 0) (w := .none) (ev_sliceRsl (sz := 1) (off := 0) (cp := l.length + 1) (j := (l.length : Int)) rfl rfl rfl rfl (by omega) (by omega)) ?_
      conv => whnf
      have hblen : (numsA .u8 l ++ [AV.int .u8 77]).length = l.length + 1 := by rw [List.length_append, nums_len]; rfl
      have harg : ∀ b1 : AB, argsA [.cells (numsA .u8 l ++ [.int .u8 77]) ⟨true, 1, false, true⟩, b1] [.rsl 0 0 l.length (some (l.length + 1)) 0] = ([.sl (numsA .u8 l) l.length false], [.cells (numsA .u8 l ++ [.int .u8 77]) ⟨true, 1, false, false⟩, b1]) := by
        intro b1
        unfold argsA
        rw [argA_rsl (b := 0) (off := 0) (n := l.length) (ver := 0) (cap := some (l.length + 1)) (c := numsA .u8 l ++ [.int .u8 77]) (i := ⟨true, 1, false, true⟩) rfl rfl rfl rfl (by rw [hblen]; show 0 + l.length * 1 ≤ l.length + 1; omega) (by decide)]
        have e1 : ((numsA .u8 l ++ [AV.int .u8 77]).drop 0).take (l.length * 1) = numsA .u8 l := by
          rw [List.drop_zero, Nat.mul_one]
          exact List.take_left' (nums_len _ _)
        have e2 : tightA (some (l.length + 1)) l.length = false := decide_eq_false (by omega)
        rw [e1, e2]
        rfl
      have hsum : ∀ (b1 : AB) (f : FuncId), evCall TE (m + 49) f (.fn 16 [] []) [.rsl 0 0 l.length (some (l.length + 1)) 0] ⟨[.cells (numsA .u8 l ++ [.int .u8 77]) ⟨true, 1, false, true⟩, b1], []⟩ = some (.ret (.int .u32 (bnot (sumL 4294967295 l))), ⟨[.cells (numsA .u8 l ++ [.int .u8 77]) ⟨true, 1, false, false⟩, b1], []⟩) := by
        intro b1 f
        rw [call_args rfl (by rw [harg]; rfl), harg]
        exact sum_c (m + 48) _ _ l false (by omega)
      refine ⟨_, _, hsum _ _, ?_⟩
      conv => whnf
      refine ⟨_, _, refsum_c (m + 48) _ _ l t (by omega), ?_⟩
      conv => whnf
      rw [show (bnot (sumL 4294967295 l) == bnot (sumL 4294967295 l)) = true from by simp]
      conv => whnf
      refine call_raw (fn := Try.f18) rfl Try.func18 rfl rfl (Nat.le_of_ble_eq_true rfl) ?_
      conv => whnf
      rw [show ((l.length : Int) != (l.length : Int)) = false from by simp]
      conv => whnf
      rw [show decide (((l.length + 1 : Nat) : Int) ≤ (l.length : Int)) = false from decide_eq_false (by omega)]
      conv => whnf
      have hlast : (numsA .u8 l ++ [AV.int .u8 77])[0 + l.length * 1]? = some (.int .u8 77) := by
        rw [Nat.zero_add, Nat.mul_one, List.getElem?_append_right (by rw [nums_len]; omega), nums_len, Nat.sub_self]
        rfl
      refine ⟨l.length + 1, by show l.length + 1 ≤ 4611686018427387904; omega, ?_⟩
      refine rounds_ind (leftS l t) (fun j => 0 ≤ j ∧ j ≤ l.length) (fun j => (l.length - j).toNat) ?_ _ 0 _ ⟨by omega, by omega⟩ (by omega) (by kernel_rfl)
      intro j m2 hJ ih2
      conv => whnf
      cases h3 : decide (j < (l.length : Int)) with
      | true =>
        have h3 := of_decide_eq_true h3
        obtain ⟨x, hx⟩ : ∃ x, l[j.toNat]? = some x := ⟨_, List.getElem?_eq_getElem (by omega)⟩
        have hc : (numsA .u8 l)[j.toNat * 1]? = some (.int .u8 x) := by rw [Nat.mul_one]; exact nums_get hx
        have hc2 : (numsA .u8 l ++ [AV.int .u8 77])[0 + j.toNat * 1]? = some (.int .u8 x) := by
          rw [Nat.zero_add, Nat.mul_one, List.getElem?_append_left (by rw [nums_len]; omega)]
          exact nums_get hx
        have hwj : IntKind.wrap .i64 (j + 1) = j + 1 := wrap64 (by omega) (by omega)
        conv => whnf
        refine runK_ret (ev_indexRsl (sz := 1) rfl rfl rfl rfl (by omega) h3) ?_
        conv => whnf
        refine runK_if rfl ?_
        refine runK_cell (c := numsA .u8 l ++ [.int .u8 77]) (i := ⟨true, 1, false, false⟩) (v := .int .u8 x) (by kernel_rfl) hc2 ?_
        refine runK_ret rfl ?_
        unfold recAppK
        dsimp only
        rw [H.appK_eq, putTK_eq]
        simp only [H.app]
        conv => whnf
        refine runK_ret (ev_indexSl (sz := 1) rfl rfl rfl rfl (by omega) h3) ?_
        unfold recAppK
        dsimp only
        rw [H.appK_eq, putTK_eq]
        simp only [H.app]
        conv => whnf
        refine runK_ret (ev_loadV (z := 1) rfl rfl rfl hc) ?_
        unfold recAppK
        dsimp only
        rw [H.appK_eq, putTK_eq]
        simp only [H.app]
        conv => whnf
        refine ⟨by kernel_rfl, ?_⟩
        conv => whnf
        rw [show (x != x) = false from by simp]
        conv => whnf
        exact ih2 (IntKind.wrap .i64 (j + 1)) _ (by rw [hwj]; omega) (by rw [hwj]; omega) (by kernel_rfl)
      | false =>
        conv => whnf
        refine runK_ret (v := .rsl 0 0 (l.length + 1) (some (l.length + 1)) 0) (w := .none) ((ev_sliceRsl (sz := 1) (off := 0) (cp := l.length + 1) (j := IntKind.wrap .i64 ((l.length : Int) + 1)) rfl rfl rfl rfl (by rw [hw1]; omega) (by rw [hw1]; omega)).trans ?_) ?_
        · rw [hw1, show ((l.length : Int) + 1).toNat = l.length + 1 by omega]
          rfl
        conv => whnf
        refine runK_ret (ev_indexRsl (sz := 1) (n := l.length + 1) (i := (l.length : Int)) rfl rfl rfl rfl (by omega) (by omega)) ?_
        conv => whnf
        refine runK_if rfl ?_
        refine runK_cell (c := numsA .u8 l ++ [.int .u8 77]) (i := ⟨true, 1, false, false⟩) (v := .int .u8 77) (by kernel_rfl) hlast ?_
        conv => whnf
        refine ⟨_, _, lives20_c (m + 9) _ _, ?_⟩
        conv => whnf
        rfl
theorem sums_nil (m : Nat) (from_ : FuncId) (h : H) : evCall TE (m + 50) from_ (.fn 4 [] []) [.sl0] h = some (.ret (.bool true), h) := by
  skip
  kernel_rfl
/-- The law, abstractly. -/
theorem sums_law (m : Nat) (from_ : FuncId) (h : H) (v : AV) (l : List Int) (hv : rowOk .u8 v l) (hl : l.length ≤ 140737488351232) : evCall TE (m + 50) from_ (.fn 4 [] []) [v] h = some (.ret (.bool true), h) := by
  rcases hv with ⟨rfl, rfl⟩ | ⟨t, rfl⟩
  · exact sums_nil m from_ h
  · exact sums_c m from_ h l t hl
end Go.Proofs.Ytbebcbcnibfbhaa.Ab
