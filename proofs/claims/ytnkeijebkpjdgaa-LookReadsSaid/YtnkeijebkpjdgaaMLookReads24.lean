import Derived.Test.YtnkeijebkpjdgaaMLookReads22
import Derived.Test.YtnkeijebkpjdgaaMLookReads23
set_option linter.unusedVariables false
set_option linter.unusedSimpArgs false
/- Over the engine: the law LookReads: a file that is read piece by piece tells just its bytes, in order, up to its end. -/
namespace Go.Proofs.Ytnkeijebkpjdgaa.Ab
open Go Go.RowKit

set_option maxRecDepth 100000
section
variable {P : Program} {flat : TypeId → Option (List Nat)} {nid : Nat} {ρ : Operand → AV}
theorem ev_convB {s d e : TypeId} {x : Operand} {p : List UInt8} {n : Nat} {t : Bool} (hs : P.underlying s = some (.slice e)) (hd : P.underlying d = some .string) (he : P.underlying e = some (.int .u8)) (hx : ρ x = .sl (numsA .u8 (bytesOf p)) n t) (hn : p.length = n) : evOp P flat nid (.convert s d x) ρ = .ret (.str p, .none) := by
  have := ev_convStr (flat := flat) (nid := nid) hs hd he hx (by rw [bytesOf_len, hn])
  rw [keyS_bytesOf] at this
  exact this
theorem ev_strAdd {t u : TypeId} {x y : Operand} {a b : List UInt8} (hx : ρ x = .str a) (hy : ρ y = .str b) (hl : a.length + b.length ≤ 100000) : evOp P flat nid (.binOp .add t x y u) ρ = .ret (.str (a ++ b), .none) := by
  have h : ¬ (((a.length + b.length : Nat) : Int) > IntKind.i64.max) := by
    have : IntKind.i64.max = 9223372036854775807 := rfl
    omega
  simp only [evOp, binA, hx, hy, strA, if_neg h]
  rfl
end
theorem world17_c (m : Nat) (from_ : FuncId) (h : H) (x : Int) : evCall TE (m + 1) from_ (.fn 14 [] []) [.int .u32 x] h = some (.ret (.agg [.int .u32 x, .int .u32 0, .int .u8 0, .int .u8 0, .int .u8 0, .int .u8 0, .int .u8 0, .int .u8 0, .int .u8 0, .int .u8 0]), h) := by
  refine call_clean (fn := Try.f14) rfl Try.func14 rfl rfl rfl rfl rfl (Nat.le_of_ble_eq_true rfl) ?_
  conv => whnf
  rfl
/-- What was read so far is what the file begins with. -/
theorem so_far {s a p : List UInt8} {c : Nat} (ha : a = s.take a.length) (hl : a.length ≤ s.length) (hp : p = (s.drop a.length).take c) : a ++ p = s.take (a ++ p).length ∧ (a ++ p).length ≤ s.length ∧ (s.length ≤ a.length + c → a ++ p = s) ∧ ((((a ++ p).length : Int) == (s.length : Int)) = ((p.length : Int) == ((s.length - a.length : Nat) : Int))) := by
  have h1 : a ++ p = s.take (a.length + c) := by
    rw [List.take_add, ← ha, hp]
  have hpl : p.length = min c (s.length - a.length) := by rw [hp, List.length_take, List.length_drop]
  have h2 : (a ++ p).length = a.length + p.length := List.length_append
  refine ⟨?_, by omega, fun h => ?_, ?_⟩
  · rcases Nat.le_total c (s.length - a.length) with hh | hh
    · rw [h2, hpl, Nat.min_eq_left hh]
      exact h1
    · rw [h1, List.length_take, List.take_of_length_le (by omega), List.take_of_length_le (by omega)]
  · rw [h1, List.take_of_length_le h]
  · rw [h2]
    rw [Bool.eq_iff_iff]
    simp only [beq_iff_eq]
    omega
set_option maxHeartbeats 8000000 in
theorem reads17_row (m : Nat) (from_ : FuncId) (h : H) (s : List UInt8) (ps : List Int) (tp : Bool) (hps : ∀ b ∈ ps, 0 ≤ b ∧ b < 256) (h1 : decide ((s.length : Int) > 5000) = false) (h2 : decide ((ps.length : Int) > 300) = false) : evCall TE (m + 60) from_ (.fn 4 [] []) [.str s, .sl (numsA .u8 ps) ps.length tp] h = some (.ret (.bool true), h) := by
  have hs : s.length ≤ 5000 := by
    have := of_decide_eq_false h1
    omega
  have hpl3 : ps.length ≤ 300 := by
    have := of_decide_eq_false h2
    omega
  have cL : ∀ (f : FuncId) (h : H), (evAll TE (m + 59)).1 f (.fn 8 [] []) [] h = some (.ret (.bool true), h) := fun f h => lives17_c (m + 9) f h
  have cWo : ∀ (f : FuncId) (h : H) (x : Int), (evAll TE (m + 59)).1 f (.fn 14 [] []) [.int .u32 x] h = some (.ret (.agg [.int .u32 x, .int .u32 0, .int .u8 0, .int .u8 0, .int .u8 0, .int .u8 0, .int .u8 0, .int .u8 0, .int .u8 0, .int .u8 0]), h) := fun f h x => world17_c (m + 58) f h x
  obtain ⟨hl, hhl⟩ : ∃ l, l = bytesS (IntKind.wrap .u32 2) 1 := ⟨_, rfl⟩
  have hget : getHS hl = some (2, 1) := by
    rw [hhl]
    kernel_rfl
  obtain ⟨W, hW⟩ : ∃ W, W = numsA .u8 hl := ⟨_, rfl⟩
  have hw : AV.sl W 16 false = .sl (numsA .u8 hl) hl.length false := by
    rw [hW, hhl]
    rfl
  have hz := Rd.zero s hs
  obtain ⟨ns0, h0⟩ : ∃ n, n = treeF 384 5 5 s := ⟨_, rfl⟩
  have cW : ∀ (f : FuncId) (h : H), (evAll TE (m + 59)).1 f (.fn 12 [] []) [.int .u32 384, .int .u32 5, .int .u32 5, .str s] h = some (.ret (.agg [.sl (nodesA ns0) 3 false, .int .u32 2]), h) := fun f h => by
    rw [h0]
    exact withF_c (m + 53) f h 384 5 5 s
  have cH : ∀ (f : FuncId) (h : H), (evAll TE (m + 59)).1 f (.fn 13 [] []) [.agg [.sl (nodesA ns0) 3 false, .int .u32 2], .int .i64 2] h = some (.ret (.tup [.sl W 16 false, .int .i64 0]), h) := fun f h => by
    have := handle_c (m + 45) f h (.sl (nodesA ns0) 3 false) ns0 (.inr ⟨false, by rw [h0]; rfl⟩) 2 2
    have e : handleA ns0 2 = .tup [.sl W 16 false, .int .i64 0] := by
      rw [h0, hW, hhl]
      kernel_rfl
    rw [e] at this
    exact this
  rw [← h0] at hz
  clear h0
  have cD : ∀ (ns : List NodeS) (t : Bool) (fn : NodeS) (a : List UInt8) (cnt : Int) (i : Int) (p : List UInt8), Rd s ns → ns[2]? = some fn → a.length ≤ s.length → 0 ≤ cnt → cnt ≤ 6000 → p = (s.drop a.length).take cnt.toNat → ∀ (f : FuncId) (h : H), (evAll TE (m + 59)).1 f (.fn 9 [] []) [.agg [.sl (nodesA ns) 3 t, .int .u32 2], .agg (credL ⟨5, 0, .sl0, []⟩), .agg (argL (rdArgs (.sl W 16 false) hl (IntKind.wrap .u64 (a.length : Int)) cnt)), .agg (worldL i 0 fun _ => 0)] h = some (.ret (.tup [.agg [.sl (nodesA (rdL ns fn i)) 3 true, .int .u32 2], .agg (ansA 6 (rdRes fn i p ((p.length : Int) == ((s.length - a.length : Nat) : Int))))]), h) := fun ns t fn a cnt i p hR hf ha hc0 hc hp f h => by
    have := read_step (m + 29) s hs ns t hR fn hf a.length ha cnt hc0 hc i (.sl W 16 false) hl false hw hget p hp f h
    rw [hR.len] at this
    rw [show IntKind.wrap .u64 (a.length : Int) = (a.length : Int) by rw [IntKind.wrap_u64]; omega]
    exact this
  unfold credL argL rdArgs worldL ansA rdRes attrsS at cD
  dsimp only [List.cons_append, List.nil_append] at cD
  clear hget hw hW hhl
  refine call_clean (fn := Try.f4) rfl Try.func4 rfl rfl rfl rfl rfl (Nat.le_of_ble_eq_true rfl) ?_
  conv => whnf
  ((with_reducible cases z0 : decide ((↑s.length : Int) > Int.ofNat 5000)) <;> try exact Bool.noConfusion (Eq.trans (Eq.symm z0) h1))
  conv => whnf
  ((with_reducible cases z1 : decide ((↑ps.length : Int) > Int.ofNat 300)) <;> try exact Bool.noConfusion (Eq.trans (Eq.symm z1) h2))
  conv => whnf
  with_reducible refine ⟨_, _, cW _ _, ?_⟩
  conv => whnf
  with_reducible refine ⟨_, _, cH _ _, ?_⟩
  conv => whnf
  clear cW cH
  refine ⟨ps.length + 2, by show _ ≤ 4611686018427387904; omega, ?_⟩
  refine rounds_at (fun st (x : Int × List UInt8 × List NodeS × Bool) => ⟨RG.of 93 [(9, .int .i64 x.1), (8, .str x.2.1), (6, .sl W 16 false), (5, .ref 0 0 0), (1, .sl (numsA .u8 ps) ps.length tp), (0, .str s)], ⟨[.cells [.sl (nodesA x.2.2.1) 3 x.2.2.2, .int .u32 2] ⟨false, 0, false, true⟩], []⟩⟩) (fun x => 0 ≤ x.1 ∧ x.1 ≤ (ps.length : Int) + 1 ∧ Rd s x.2.2.1 ∧ x.2.1 = s.take x.2.1.length ∧ x.2.1.length ≤ s.length ∧ (x.1 = (ps.length : Int) + 1 → x.2.1 = s)) (fun x => ((ps.length : Int) + 1 - x.1).toNat) _ (0, [], ns0, false) ⟨by omega, by omega, hz, rfl, Nat.zero_le _, fun h => by omega⟩ (by show ((ps.length : Int) + 1 - 0).toNat < _; omega) (by kernel_rfl) ?_
  intro ⟨i, a, ns, t⟩ m' hI ih
  dsimp only at hI ih ⊢
  obtain ⟨hI0, hI1, hR, hA, hAl, hAe⟩ := hI
  conv => whnf
  cases hlt : decide (i ≤ (ps.length : Int)) with
  | false =>
    have hlt := of_decide_eq_false hlt
    obtain rfl : a = s := hAe (by omega)
    clear ih
    have hss : (a == a) = true := by simp
    conv => whnf
    ((with_reducible cases z0 : a == a) <;> try exact Bool.noConfusion (Eq.trans (Eq.symm z0) hss))
    conv => whnf
    with_reducible refine ⟨_, _, cL _ _, ?_⟩
    conv => whnf
    rfl
  | true =>
    have hlt := of_decide_eq_true hlt
    obtain ⟨fn, hf, _⟩ := hR.f
    have hw1 : IntKind.wrap .i64 (i + 1) = i + 1 := wrap64 (by omega) (by omega)
    have hmu : ((ps.length : Int) + 1 - IntKind.wrap .i64 (i + 1)).toNat < ((ps.length : Int) + 1 - i).toNat := by rw [hw1]; omega
    have hst : ∀ (cnt : Int) (p : List UInt8), p = (s.drop a.length).take cnt.toNat → (i = (ps.length : Int) → 6000 ≤ cnt) → 0 ≤ IntKind.wrap .i64 (i + 1) ∧ IntKind.wrap .i64 (i + 1) ≤ (ps.length : Int) + 1 ∧ Rd s (rdL ns fn (IntKind.wrap .u32 i)) ∧ a ++ p = s.take (a ++ p).length ∧ (a ++ p).length ≤ s.length ∧ (IntKind.wrap .i64 (i + 1) = (ps.length : Int) + 1 → a ++ p = s) := fun cnt p hp hc => by
      obtain ⟨q1, q2, q3, _⟩ := so_far hA hAl hp
      refine ⟨by omega, by omega, hR.next rfl hf, q1, q2, fun h => q3 ?_⟩
      have := hc (by omega)
      omega
    cases hin : decide (i < (ps.length : Int)) with
    | false =>
      have cD' := cD ns t fn a ((6000 : Int)) (IntKind.wrap .u32 i) _ hR hf hAl (by omega) (by omega) rfl
      have hst' := hst ((6000 : Int)) _ rfl (fun _ => by omega)
      obtain ⟨_, _, _, hEnd⟩ := so_far hA hAl (rfl : (s.drop a.length).take ((6000 : Int)).toNat = _)
      obtain ⟨p, hp⟩ : ∃ p, p = (s.drop a.length).take ((6000 : Int)).toNat := ⟨_, rfl⟩
      rw [← hp] at cD' hst' hEnd
      have hpp : p.length ≤ 5000 := by rw [hp, List.length_take, List.length_drop]; omega
      have hcl1 : (IntKind.wrap .i64 (p.length : Int) != (p.length : Int)) = false := by
        rw [wrap64 (by omega) (by omega)]
        simp
      obtain ⟨E, hE⟩ : ∃ E, E = ((p.length : Int) == ((s.length - a.length : Nat) : Int)) := ⟨_, rfl⟩
      rw [← hE] at cD' hEnd
      have hEE : (E == ((((a ++ p).length : Int)) == (s.length : Int))) = true := by
        rw [hEnd]
        simp
      clear hE cD hst hp hEnd
      cases E
      · conv => whnf
        ((with_reducible cases z0 : decide (i < (↑ps.length : Int))) <;> try exact Bool.noConfusion (Eq.trans (Eq.symm z0) hin))
        conv => whnf
        with_reducible refine ⟨_, _, cWo _ _ _, ?_⟩
        conv => whnf
        (refine ⟨by kernel_rfl, ?_⟩)
        conv => whnf
        (refine ⟨_, _, cD' _ _, ?_⟩)
        conv => whnf
        (refine ⟨by kernel_rfl, ?_⟩)
        conv => whnf
        (refine ⟨by kernel_rfl, ?_⟩)
        conv => whnf
        ((with_reducible cases z1 : IntKind.i64.wrap (↑p.length : Int) != (↑p.length : Int)) <;> try exact Bool.noConfusion (Eq.trans (Eq.symm z1) hcl1))
        conv => whnf
        (refine runK_ret (ev_convB (p := p) rfl rfl rfl rfl rfl) ?_)
        conv => whnf
        (refine runK_ret (ev_strAdd (a := a) (b := p) rfl rfl (by omega)) ?_)
        conv => whnf
        ((with_reducible cases z2 : false == ((↑(a ++ p).length : Int) == (↑s.length : Int))) <;> try exact Bool.noConfusion (Eq.trans (Eq.symm z2) hEE))
        conv => whnf
        (exact ih (IntKind.wrap .i64 (i + 1), a ++ p, rdL ns fn (IntKind.wrap .u32 i), true) _ hst' hmu (by kernel_rfl))
      · conv => whnf
        ((with_reducible cases z0 : decide (i < (↑ps.length : Int))) <;> try exact Bool.noConfusion (Eq.trans (Eq.symm z0) hin))
        conv => whnf
        with_reducible refine ⟨_, _, cWo _ _ _, ?_⟩
        conv => whnf
        (refine ⟨by kernel_rfl, ?_⟩)
        conv => whnf
        (refine ⟨_, _, cD' _ _, ?_⟩)
        conv => whnf
        (refine ⟨by kernel_rfl, ?_⟩)
        conv => whnf
        (refine ⟨by kernel_rfl, ?_⟩)
        conv => whnf
        ((with_reducible cases z1 : IntKind.i64.wrap (↑p.length : Int) != (↑p.length : Int)) <;> try exact Bool.noConfusion (Eq.trans (Eq.symm z1) hcl1))
        conv => whnf
        (refine runK_ret (ev_convB (p := p) rfl rfl rfl rfl rfl) ?_)
        conv => whnf
        (refine runK_ret (ev_strAdd (a := a) (b := p) rfl rfl (by omega)) ?_)
        conv => whnf
        ((with_reducible cases z2 : true == ((↑(a ++ p).length : Int) == (↑s.length : Int))) <;> try exact Bool.noConfusion (Eq.trans (Eq.symm z2) hEE))
        conv => whnf
        (exact ih (IntKind.wrap .i64 (i + 1), a ++ p, rdL ns fn (IntKind.wrap .u32 i), true) _ hst' hmu (by kernel_rfl))
    | true =>
      have hin2 := of_decide_eq_true hin
      obtain ⟨b, hb⟩ : ∃ b, ps[i.toNat]? = some b := ⟨_, List.getElem?_eq_getElem (by omega)⟩
      have hb2 := hps b (List.mem_of_getElem? hb)
      have hbw : IntKind.wrap .u32 b = b := by rw [IntKind.wrap_u32]; omega
      have hcell : (numsA .u8 ps)[i.toNat * 1]? = some (.int .u8 b) := by
        unfold numsA
        rw [Nat.mul_one, List.getElem?_map, hb]
        rfl
      have cD' := cD ns t fn a (IntKind.wrap .u32 b) (IntKind.wrap .u32 i) _ hR hf hAl (by rw [hbw]; omega) (by rw [hbw]; omega) rfl
      have hst' := hst (IntKind.wrap .u32 b) _ rfl (fun h => by omega)
      obtain ⟨_, _, _, hEnd⟩ := so_far hA hAl (rfl : (s.drop a.length).take (IntKind.wrap .u32 b).toNat = _)
      obtain ⟨p, hp⟩ : ∃ p, p = (s.drop a.length).take (IntKind.wrap .u32 b).toNat := ⟨_, rfl⟩
      rw [← hp] at cD' hst' hEnd
      have hpp : p.length ≤ 5000 := by rw [hp, List.length_take, List.length_drop]; omega
      have hcl1 : (IntKind.wrap .i64 (p.length : Int) != (p.length : Int)) = false := by
        rw [wrap64 (by omega) (by omega)]
        simp
      obtain ⟨E, hE⟩ : ∃ E, E = ((p.length : Int) == ((s.length - a.length : Nat) : Int)) := ⟨_, rfl⟩
      rw [← hE] at cD' hEnd
      have hEE : (E == ((((a ++ p).length : Int)) == (s.length : Int))) = true := by
        rw [hEnd]
        simp
      clear hE cD hst hp hEnd
      cases E
      · conv => whnf
        ((with_reducible cases z0 : decide (i < (↑ps.length : Int))) <;> try exact Bool.noConfusion (Eq.trans (Eq.symm z0) hin))
        conv => whnf
        (refine runK_ret (ev_indexSl (cells := numsA .u8 ps) (sz := 1) rfl rfl rfl rfl hI0 hin2) ?_)
        conv => whnf
        (refine runK_ret (ev_loadV (z := 1) rfl rfl rfl hcell) ?_)
        conv => whnf
        with_reducible refine ⟨_, _, cWo _ _ _, ?_⟩
        conv => whnf
        (refine ⟨by kernel_rfl, ?_⟩)
        conv => whnf
        (refine ⟨_, _, cD' _ _, ?_⟩)
        conv => whnf
        (refine ⟨by kernel_rfl, ?_⟩)
        conv => whnf
        (refine ⟨by kernel_rfl, ?_⟩)
        conv => whnf
        ((with_reducible cases z1 : IntKind.i64.wrap (↑p.length : Int) != (↑p.length : Int)) <;> try exact Bool.noConfusion (Eq.trans (Eq.symm z1) hcl1))
        conv => whnf
        (refine runK_ret (ev_convB (p := p) rfl rfl rfl rfl rfl) ?_)
        conv => whnf
        (refine runK_ret (ev_strAdd (a := a) (b := p) rfl rfl (by omega)) ?_)
        conv => whnf
        ((with_reducible cases z2 : false == ((↑(a ++ p).length : Int) == (↑s.length : Int))) <;> try exact Bool.noConfusion (Eq.trans (Eq.symm z2) hEE))
        conv => whnf
        (exact ih (IntKind.wrap .i64 (i + 1), a ++ p, rdL ns fn (IntKind.wrap .u32 i), true) _ hst' hmu (by kernel_rfl))
      · conv => whnf
        ((with_reducible cases z0 : decide (i < (↑ps.length : Int))) <;> try exact Bool.noConfusion (Eq.trans (Eq.symm z0) hin))
        conv => whnf
        (refine runK_ret (ev_indexSl (cells := numsA .u8 ps) (sz := 1) rfl rfl rfl rfl hI0 hin2) ?_)
        conv => whnf
        (refine runK_ret (ev_loadV (z := 1) rfl rfl rfl hcell) ?_)
        conv => whnf
        with_reducible refine ⟨_, _, cWo _ _ _, ?_⟩
        conv => whnf
        (refine ⟨by kernel_rfl, ?_⟩)
        conv => whnf
        (refine ⟨_, _, cD' _ _, ?_⟩)
        conv => whnf
        (refine ⟨by kernel_rfl, ?_⟩)
        conv => whnf
        (refine ⟨by kernel_rfl, ?_⟩)
        conv => whnf
        ((with_reducible cases z1 : IntKind.i64.wrap (↑p.length : Int) != (↑p.length : Int)) <;> try exact Bool.noConfusion (Eq.trans (Eq.symm z1) hcl1))
        conv => whnf
        (refine runK_ret (ev_convB (p := p) rfl rfl rfl rfl rfl) ?_)
        conv => whnf
        (refine runK_ret (ev_strAdd (a := a) (b := p) rfl rfl (by omega)) ?_)
        conv => whnf
        ((with_reducible cases z2 : true == ((↑(a ++ p).length : Int) == (↑s.length : Int))) <;> try exact Bool.noConfusion (Eq.trans (Eq.symm z2) hEE))
        conv => whnf
        (exact ih (IntKind.wrap .i64 (i + 1), a ++ p, rdL ns fn (IntKind.wrap .u32 i), true) _ hst' hmu (by kernel_rfl))
set_option maxHeartbeats 8000000 in
theorem reads17_nil (m : Nat) (from_ : FuncId) (h : H) (s : List UInt8) (h1 : decide ((s.length : Int) > 5000) = false) : evCall TE (m + 60) from_ (.fn 4 [] []) [.str s, .sl0] h = some (.ret (.bool true), h) := by
  have hs : s.length ≤ 5000 := by
    have := of_decide_eq_false h1
    omega
  have cL : ∀ (f : FuncId) (h : H), (evAll TE (m + 59)).1 f (.fn 8 [] []) [] h = some (.ret (.bool true), h) := fun f h => lives17_c (m + 9) f h
  have cWo : ∀ (f : FuncId) (h : H) (x : Int), (evAll TE (m + 59)).1 f (.fn 14 [] []) [.int .u32 x] h = some (.ret (.agg [.int .u32 x, .int .u32 0, .int .u8 0, .int .u8 0, .int .u8 0, .int .u8 0, .int .u8 0, .int .u8 0, .int .u8 0, .int .u8 0]), h) := fun f h x => world17_c (m + 58) f h x
  obtain ⟨hl, hhl⟩ : ∃ l, l = bytesS (IntKind.wrap .u32 2) 1 := ⟨_, rfl⟩
  have hget : getHS hl = some (2, 1) := by
    rw [hhl]
    kernel_rfl
  obtain ⟨W, hW⟩ : ∃ W, W = numsA .u8 hl := ⟨_, rfl⟩
  have hw : AV.sl W 16 false = .sl (numsA .u8 hl) hl.length false := by
    rw [hW, hhl]
    rfl
  have hz := Rd.zero s hs
  obtain ⟨ns0, h0⟩ : ∃ n, n = treeF 384 5 5 s := ⟨_, rfl⟩
  have cW : ∀ (f : FuncId) (h : H), (evAll TE (m + 59)).1 f (.fn 12 [] []) [.int .u32 384, .int .u32 5, .int .u32 5, .str s] h = some (.ret (.agg [.sl (nodesA ns0) 3 false, .int .u32 2]), h) := fun f h => by
    rw [h0]
    exact withF_c (m + 53) f h 384 5 5 s
  have cH : ∀ (f : FuncId) (h : H), (evAll TE (m + 59)).1 f (.fn 13 [] []) [.agg [.sl (nodesA ns0) 3 false, .int .u32 2], .int .i64 2] h = some (.ret (.tup [.sl W 16 false, .int .i64 0]), h) := fun f h => by
    have := handle_c (m + 45) f h (.sl (nodesA ns0) 3 false) ns0 (.inr ⟨false, by rw [h0]; rfl⟩) 2 2
    have e : handleA ns0 2 = .tup [.sl W 16 false, .int .i64 0] := by
      rw [h0, hW, hhl]
      kernel_rfl
    rw [e] at this
    exact this
  rw [← h0] at hz
  clear h0
  have cD : ∀ (ns : List NodeS) (t : Bool) (fn : NodeS) (a : List UInt8) (cnt : Int) (i : Int) (p : List UInt8), Rd s ns → ns[2]? = some fn → a.length ≤ s.length → 0 ≤ cnt → cnt ≤ 6000 → p = (s.drop a.length).take cnt.toNat → ∀ (f : FuncId) (h : H), (evAll TE (m + 59)).1 f (.fn 9 [] []) [.agg [.sl (nodesA ns) 3 t, .int .u32 2], .agg (credL ⟨5, 0, .sl0, []⟩), .agg (argL (rdArgs (.sl W 16 false) hl (IntKind.wrap .u64 (a.length : Int)) cnt)), .agg (worldL i 0 fun _ => 0)] h = some (.ret (.tup [.agg [.sl (nodesA (rdL ns fn i)) 3 true, .int .u32 2], .agg (ansA 6 (rdRes fn i p ((p.length : Int) == ((s.length - a.length : Nat) : Int))))]), h) := fun ns t fn a cnt i p hR hf ha hc0 hc hp f h => by
    have := read_step (m + 29) s hs ns t hR fn hf a.length ha cnt hc0 hc i (.sl W 16 false) hl false hw hget p hp f h
    rw [hR.len] at this
    rw [show IntKind.wrap .u64 (a.length : Int) = (a.length : Int) by rw [IntKind.wrap_u64]; omega]
    exact this
  unfold credL argL rdArgs worldL ansA rdRes attrsS at cD
  dsimp only [List.cons_append, List.nil_append] at cD
  clear hget hw hW hhl
  refine call_clean (fn := Try.f4) rfl Try.func4 rfl rfl rfl rfl rfl (Nat.le_of_ble_eq_true rfl) ?_
  conv => whnf
  ((with_reducible cases z0 : decide ((↑s.length : Int) > Int.ofNat 5000)) <;> try exact Bool.noConfusion (Eq.trans (Eq.symm z0) h1))
  conv => whnf
  with_reducible refine ⟨_, _, cW _ _, ?_⟩
  conv => whnf
  with_reducible refine ⟨_, _, cH _ _, ?_⟩
  conv => whnf
  clear cW cH
  refine ⟨2, by show _ ≤ 4611686018427387904; omega, ?_⟩
  refine rounds_at (fun st (x : Int × List UInt8 × List NodeS × Bool) => ⟨RG.of 93 [(9, .int .i64 x.1), (8, .str x.2.1), (6, .sl W 16 false), (5, .ref 0 0 0), (1, .sl0), (0, .str s)], ⟨[.cells [.sl (nodesA x.2.2.1) 3 x.2.2.2, .int .u32 2] ⟨false, 0, false, true⟩], []⟩⟩) (fun x => 0 ≤ x.1 ∧ x.1 ≤ (0 : Int) + 1 ∧ Rd s x.2.2.1 ∧ x.2.1 = s.take x.2.1.length ∧ x.2.1.length ≤ s.length ∧ (x.1 = (0 : Int) + 1 → x.2.1 = s)) (fun x => ((0 : Int) + 1 - x.1).toNat) _ (0, [], ns0, false) ⟨by omega, by omega, hz, rfl, Nat.zero_le _, fun h => by omega⟩ (by show ((0 : Int) + 1 - 0).toNat < _; omega) (by kernel_rfl) ?_
  intro ⟨i, a, ns, t⟩ m' hI ih
  dsimp only at hI ih ⊢
  obtain ⟨hI0, hI1, hR, hA, hAl, hAe⟩ := hI
  conv => whnf
  cases hlt : decide (i ≤ (0 : Int)) with
  | false =>
    have hlt := of_decide_eq_false hlt
    obtain rfl : a = s := hAe (by omega)
    clear ih
    have hss : (a == a) = true := by simp
    conv => whnf
    ((with_reducible cases z0 : a == a) <;> try exact Bool.noConfusion (Eq.trans (Eq.symm z0) hss))
    conv => whnf
    with_reducible refine ⟨_, _, cL _ _, ?_⟩
    conv => whnf
    rfl
  | true =>
    have hlt := of_decide_eq_true hlt
    obtain ⟨fn, hf, _⟩ := hR.f
    have hw1 : IntKind.wrap .i64 (i + 1) = i + 1 := wrap64 (by omega) (by omega)
    have hmu : ((0 : Int) + 1 - IntKind.wrap .i64 (i + 1)).toNat < ((0 : Int) + 1 - i).toNat := by rw [hw1]; omega
    have hst : ∀ (cnt : Int) (p : List UInt8), p = (s.drop a.length).take cnt.toNat → (i = (0 : Int) → 6000 ≤ cnt) → 0 ≤ IntKind.wrap .i64 (i + 1) ∧ IntKind.wrap .i64 (i + 1) ≤ (0 : Int) + 1 ∧ Rd s (rdL ns fn (IntKind.wrap .u32 i)) ∧ a ++ p = s.take (a ++ p).length ∧ (a ++ p).length ≤ s.length ∧ (IntKind.wrap .i64 (i + 1) = (0 : Int) + 1 → a ++ p = s) := fun cnt p hp hc => by
      obtain ⟨q1, q2, q3, _⟩ := so_far hA hAl hp
      refine ⟨by omega, by omega, hR.next rfl hf, q1, q2, fun h => q3 ?_⟩
      have := hc (by omega)
      omega
    have hno : decide (i < 0) = false := decide_eq_false (by omega)
    have cD' := cD ns t fn a ((6000 : Int)) (IntKind.wrap .u32 i) _ hR hf hAl (by omega) (by omega) rfl
    have hst' := hst ((6000 : Int)) _ rfl (fun _ => by omega)
    obtain ⟨_, _, _, hEnd⟩ := so_far hA hAl (rfl : (s.drop a.length).take ((6000 : Int)).toNat = _)
    obtain ⟨p, hp⟩ : ∃ p, p = (s.drop a.length).take ((6000 : Int)).toNat := ⟨_, rfl⟩
    rw [← hp] at cD' hst' hEnd
    have hpp : p.length ≤ 5000 := by rw [hp, List.length_take, List.length_drop]; omega
    have hcl1 : (IntKind.wrap .i64 (p.length : Int) != (p.length : Int)) = false := by
      rw [wrap64 (by omega) (by omega)]
      simp
    obtain ⟨E, hE⟩ : ∃ E, E = ((p.length : Int) == ((s.length - a.length : Nat) : Int)) := ⟨_, rfl⟩
    rw [← hE] at cD' hEnd
    have hEE : (E == ((((a ++ p).length : Int)) == (s.length : Int))) = true := by
      rw [hEnd]
      simp
    clear hE cD hst hp hEnd
    cases E
    · conv => whnf
      ((with_reducible cases z0 : decide (i < (↑0 : Int))) <;> try exact Bool.noConfusion (Eq.trans (Eq.symm z0) hno))
      conv => whnf
      with_reducible refine ⟨_, _, cWo _ _ _, ?_⟩
      conv => whnf
      (refine ⟨by kernel_rfl, ?_⟩)
      conv => whnf
      (refine ⟨_, _, cD' _ _, ?_⟩)
      conv => whnf
      (refine ⟨by kernel_rfl, ?_⟩)
      conv => whnf
      (refine ⟨by kernel_rfl, ?_⟩)
      conv => whnf
      ((with_reducible cases z1 : IntKind.i64.wrap (↑p.length : Int) != (↑p.length : Int)) <;> try exact Bool.noConfusion (Eq.trans (Eq.symm z1) hcl1))
      conv => whnf
      (refine runK_ret (ev_convB (p := p) rfl rfl rfl rfl rfl) ?_)
      conv => whnf
      (refine runK_ret (ev_strAdd (a := a) (b := p) rfl rfl (by omega)) ?_)
      conv => whnf
      ((with_reducible cases z2 : false == ((↑(a ++ p).length : Int) == (↑s.length : Int))) <;> try exact Bool.noConfusion (Eq.trans (Eq.symm z2) hEE))
      conv => whnf
      (exact ih (IntKind.wrap .i64 (i + 1), a ++ p, rdL ns fn (IntKind.wrap .u32 i), true) _ hst' hmu (by kernel_rfl))
    · conv => whnf
      ((with_reducible cases z0 : decide (i < (↑0 : Int))) <;> try exact Bool.noConfusion (Eq.trans (Eq.symm z0) hno))
      conv => whnf
      with_reducible refine ⟨_, _, cWo _ _ _, ?_⟩
      conv => whnf
      (refine ⟨by kernel_rfl, ?_⟩)
      conv => whnf
      (refine ⟨_, _, cD' _ _, ?_⟩)
      conv => whnf
      (refine ⟨by kernel_rfl, ?_⟩)
      conv => whnf
      (refine ⟨by kernel_rfl, ?_⟩)
      conv => whnf
      ((with_reducible cases z1 : IntKind.i64.wrap (↑p.length : Int) != (↑p.length : Int)) <;> try exact Bool.noConfusion (Eq.trans (Eq.symm z1) hcl1))
      conv => whnf
      (refine runK_ret (ev_convB (p := p) rfl rfl rfl rfl rfl) ?_)
      conv => whnf
      (refine runK_ret (ev_strAdd (a := a) (b := p) rfl rfl (by omega)) ?_)
      conv => whnf
      ((with_reducible cases z2 : true == ((↑(a ++ p).length : Int) == (↑s.length : Int))) <;> try exact Bool.noConfusion (Eq.trans (Eq.symm z2) hEE))
      conv => whnf
      (exact ih (IntKind.wrap .i64 (i + 1), a ++ p, rdL ns fn (IntKind.wrap .u32 i), true) _ hst' hmu (by kernel_rfl))
end Go.Proofs.Ytnkeijebkpjdgaa.Ab
/- Over the engine: the law LookReads. -/
namespace Go.Proofs.Ytnkeijebkpjdgaa.Ab
open Go Go.RowKit

set_option maxRecDepth 100000
set_option maxHeartbeats 4000000 in
theorem reads17_long (m : Nat) (from_ : FuncId) (h : H) (s : List UInt8) (v : AV) (ps : List Int) (hv : rowOk .u8 v ps) (h1 : decide ((s.length : Int) > 5000) = true) : evCall TE (m + 60) from_ (.fn 4 [] []) [.str s, v] h = some (.ret (.bool true), h) := by
  have cL : ∀ (f : FuncId) (h : H), (evAll TE (m + 59)).1 f (.fn 8 [] []) [] h = some (.ret (.bool true), h) := fun f h => lives17_c (m + 9) f h
  rcases hv with ⟨rfl, rfl⟩ | ⟨tp, rfl⟩
  all_goals refine call_clean (fn := Try.f4) rfl Try.func4 rfl rfl rfl rfl rfl (Nat.le_of_ble_eq_true rfl) ?_
  all_goals
    conv => whnf
    ((with_reducible cases z0 : decide ((↑s.length : Int) > Int.ofNat 5000)) <;> try exact Bool.noConfusion (Eq.trans (Eq.symm z0) h1))
    conv => whnf
    with_reducible refine ⟨_, _, cL _ _, ?_⟩
    conv => whnf
set_option maxHeartbeats 4000000 in
theorem reads17_many (m : Nat) (from_ : FuncId) (h : H) (s : List UInt8) (ps : List Int) (tp : Bool) (h1 : decide ((s.length : Int) > 5000) = false) (h2 : decide ((ps.length : Int) > 300) = true) : evCall TE (m + 60) from_ (.fn 4 [] []) [.str s, .sl (numsA .u8 ps) ps.length tp] h = some (.ret (.bool true), h) := by
  have cL : ∀ (f : FuncId) (h : H), (evAll TE (m + 59)).1 f (.fn 8 [] []) [] h = some (.ret (.bool true), h) := fun f h => lives17_c (m + 9) f h
  refine call_clean (fn := Try.f4) rfl Try.func4 rfl rfl rfl rfl rfl (Nat.le_of_ble_eq_true rfl) ?_
  conv => whnf
  ((with_reducible cases z0 : decide ((↑s.length : Int) > Int.ofNat 5000)) <;> try exact Bool.noConfusion (Eq.trans (Eq.symm z0) h1))
  conv => whnf
  ((with_reducible cases z1 : decide ((↑ps.length : Int) > Int.ofNat 300)) <;> try exact Bool.noConfusion (Eq.trans (Eq.symm z1) h2))
  conv => whnf
  with_reducible refine ⟨_, _, cL _ _, ?_⟩
  conv => whnf
/-- The law, abstractly. -/
theorem reads17_law (m : Nat) (from_ : FuncId) (h : H) (s : List UInt8) (v : AV) (ps : List Int) (hv : rowOk .u8 v ps) (hb : ∀ b ∈ ps, 0 ≤ b ∧ b < 256) : evCall TE (m + 60) from_ (.fn 4 [] []) [.str s, v] h = some (.ret (.bool true), h) := by
  cases h1 : decide ((s.length : Int) > 5000) with
  | true => exact reads17_long m from_ h s v ps hv h1
  | false =>
    rcases hv with ⟨rfl, rfl⟩ | ⟨tp, rfl⟩
    · exact reads17_nil m from_ h s h1
    · cases h2 : decide ((ps.length : Int) > 300) with
      | true => exact reads17_many m from_ h s ps tp h1 h2
      | false => exact reads17_row m from_ h s ps tp hb h1 h2
end Go.Proofs.Ytnkeijebkpjdgaa.Ab
