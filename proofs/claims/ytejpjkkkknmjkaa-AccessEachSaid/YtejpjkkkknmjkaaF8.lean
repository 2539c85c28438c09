import Derived.Test.YtejpjkkkknmjkaaF5
import Derived.Test.YtejpjkkkknmjkaaF6
import Derived.Test.YtejpjkkkknmjkaaF7
/- Over the engine: the law AccessEach. -/
namespace Go.Proofs.Ytejpjkkkknmjkaa.Ab
open Go Go.RowKit

set_option maxRecDepth 100000
/-- What an asking is. -/
structure AskS where
  t : TreeS
  n : Int
  c : CredS
  bits : Int
def askA (x : AskS) : AV := .agg [x.t.v, .int .u32 x.t.gen, .int .i64 x.n, .int .u32 x.c.user, .int .u32 x.c.group, x.c.gs, .int .u32 x.bits]
def partE (mw : Int → Bool) (what b : Int) : Bool := !(band .u32 what b != 0) || mw b
def eachE (mw : Int → Bool) (what : Int) : Nat → Bool
  | 0 => true
  | 1 => partE mw what 1
  | 2 => partE mw what 1 && partE mw what 2
  | _ => partE mw what 1 && partE mw what 2 && partE mw what 4
def bitOf : Nat → Int
  | 0 => 1
  | 1 => 2
  | 2 => 4
  | _ => 8
theorem each1 (mw : Int → Bool) (what : Int) (j : Nat) (hj : j < 3) : eachE mw what (j + 1) = (eachE mw what j && partE mw what (bitOf j)) := by
  obtain rfl | rfl | rfl : j = 0 ∨ j = 1 ∨ j = 2 := by omega
  · simp [eachE, bitOf]
  · simp [eachE, bitOf]
  · simp [eachE, bitOf]
theorem part0 {mw : Int → Bool} {what b : Int} (h : (band .u32 what b != 0) = false) : partE mw what b = true := by
  unfold partE
  rw [h]
  rfl
theorem part1 {mw : Int → Bool} {what b : Int} (h : (band .u32 what b != 0) = true) : partE mw what b = mw b := by
  unfold partE
  rw [h]
  rfl
def eachS (xs : List AV) (what : Int) : ST := ⟨((RG.empty 91).put 3 (.int .u32 what)).put 1 (.ref 0 0 0), ⟨[.cells xs ⟨false, 0, false, true⟩], []⟩⟩
def eachS2 (xs : List AV) (what : Int) (p : Nat × Bool) : ST := ⟨((((RG.empty 91).put 5 (.int .u32 (bitOf p.1))).put 4 (.bool p.2)).put 3 (.int .u32 what)).put 1 (.ref 0 0 0), ⟨[.cells xs ⟨false, 0, false, true⟩], []⟩⟩
set_option maxHeartbeats 16000000 in
theorem each_c (m : Nat) (from_ : FuncId) (h : H) (x : AskS) (ht : x.t.ok) (hc : x.c.ok) (mw : Int → Bool) (bw : Int → Int)
    (hmay : ∀ (f : FuncId) (h : H) (what : Int), evCall TE (m + 29) f (.fn 7 [] []) [.agg [x.t.v, .int .u32 x.t.gen], .int .i64 x.n, credA x.c, .int .u32 what] h = some (.ret (.bool (mw what)), h))
    (hbits : ∀ (f : FuncId) (h : H) (asked : Int), evCall TE (m + 29) f (.fn 8 [] []) [.agg [x.t.v, .int .u32 x.t.gen], .int .i64 x.n, credA x.c, .int .u32 asked] h = some (.ret (.int .u32 (bw asked)), h))
    (heach : ∀ what, 1 ≤ what → what < 8 → mw what = eachE mw what 3) (hb1 : bw 4294967295 ≤ 63) (hb2 : bw x.bits = band .u32 (bw 4294967295) x.bits) (hb3 : (band .u32 (bw 4294967295) 1 == 1) = mw 4) :
    evCall TE (m + 30) from_ (.fn 3 [] []) [askA x] h = some (.ret (.bool true), h) := by
  obtain ⟨_, ⟨r, rfl, hr0, hr2⟩, hsize⟩ := treeSize_c (m + 25) x.t ht
  obtain ⟨⟨v, ns, gen⟩, n, ⟨u, gr, gs, l⟩, bits⟩ := x
  have hv := ht.v
  obtain ⟨h1, h2⟩ := hc
  dsimp only at h1 h2 hv hmay hbits hb2 hsize
  obtain ⟨xs, hxs⟩ : ∃ xs, xs = [v, .int .u32 gen, .int .i64 n, .int .u32 u, .int .u32 gr, gs, .int .u32 bits] := ⟨_, rfl⟩
  have hlives := fun (f : FuncId) (h : H) => lives_c (m + 9) f h
  have e1 : decide (bw 4294967295 > 63) = false := decide_eq_false (by omega)
  have e2 : (bw bits != IntKind.wrap .u32 ((BitVec.ofInt IntKind.u32.bits (bw 4294967295) &&& BitVec.ofInt IntKind.u32.bits bits).toNat : Int)) = false := by rw [hb2]; unfold band; simp
  have e3 : (!((IntKind.wrap .u32 ((BitVec.ofInt IntKind.u32.bits (bw 4294967295) &&& BitVec.ofInt IntKind.u32.bits 1).toNat : Int) == 1) == mw 4)) = false := by rw [← hb3]; unfold band; simp
  rcases hv with ⟨rfl, rfl⟩ | ⟨t, rfl⟩ <;> rcases h1 with ⟨rfl, rfl⟩ | ⟨tt, rfl⟩
  · refine call_clean (fn := Try.f3) rfl Try.func3 rfl rfl rfl rfl rfl (Nat.le_of_ble_eq_true rfl) ?_
    conv => whnf
    refine ⟨_, _, hsize _ _, ?_⟩
    conv => whnf
    cases g1 : decide (r > 40000) with
    | true =>
      conv => whnf
      refine ⟨_, _, hlives _ _, ?_⟩
      conv => whnf
    | false =>
      conv => whnf
      refine ⟨8, Nat.le_of_ble_eq_true rfl, ?_⟩
      refine rounds_ind (eachS xs) (fun w => 1 ≤ w ∧ w ≤ 8) (fun w => (8 - w).toNat) ?_ _ 1 _ ⟨by omega, by omega⟩ (by decide) (by rw [hxs]; kernel_rfl)
      intro w m' hI ih
      unfold eachS
      rw [hxs]
      conv => whnf
      cases h1 : decide (w < 8) with
      | false =>
        conv => whnf
        refine ⟨_, _, hbits _ _ _, ?_⟩
        conv => whnf
        rw [e1]
        conv => whnf
        refine ⟨_, _, hbits _ _ _, rfl, ?_⟩
        conv => whnf
        rw [e2]
        conv => whnf
        refine ⟨_, _, hmay _ _ _, rfl, ?_⟩
        conv => whnf
        refine ⟨by kernel_rfl, ?_⟩
        conv => whnf
        rw [e3]
        conv => whnf
        refine ⟨_, _, hlives _ _, ?_⟩
        conv => whnf
      | true =>
        have h1 := of_decide_eq_true h1
        conv => whnf
        refine ⟨4, Nat.le_of_ble_eq_true rfl, ?_⟩
        refine rounds_ind (eachS2 xs w) (fun p => p.1 ≤ 3 ∧ p.2 = eachE mw w p.1) (fun p => 3 - p.1) ?_ _ (0, true) _ ⟨by decide, rfl⟩ (by decide) (by rw [hxs]; kernel_rfl)
        intro p m'' hI2 ih2
        obtain ⟨j, e⟩ := p
        obtain ⟨hj, he⟩ := hI2
        dsimp only at hj he ih2 ⊢
        unfold eachS2
        rw [hxs]
        obtain rfl | rfl | rfl | rfl : j = 0 ∨ j = 1 ∨ j = 2 ∨ j = 3 := by omega
        · dsimp only [bitOf]
          conv => whnf
          cases h2 : IntKind.wrap .u32 ((BitVec.ofInt IntKind.u32.bits w &&& BitVec.ofInt IntKind.u32.bits 1).toNat : Int) != 0 with
          | false =>
            conv => whnf
            exact ih2 (0 + 1, e) _ ⟨by dsimp only; omega, by dsimp only; rw [each1 mw w 0 (by omega), ← he, part0 (b := bitOf 0) h2, Bool.and_true]⟩ (by dsimp only; omega) (by rw [hxs]; kernel_rfl)
          | true =>
            conv => whnf
            cases e with
            | false =>
              conv => whnf
              exact ih2 (0 + 1, false) _ ⟨by dsimp only; omega, by dsimp only; rw [each1 mw w 0 (by omega), ← he]; rfl⟩ (by dsimp only; omega) (by rw [hxs]; kernel_rfl)
            | true =>
              conv => whnf
              refine ⟨_, _, hmay _ _ _, ?_⟩
              conv => whnf
              exact ih2 (0 + 1, mw 1) _ ⟨by dsimp only; omega, by dsimp only; rw [each1 mw w 0 (by omega), ← he, part1 (b := bitOf 0) h2]; rfl⟩ (by dsimp only; omega) (by rw [hxs]; kernel_rfl)
        · dsimp only [bitOf]
          conv => whnf
          cases h2 : IntKind.wrap .u32 ((BitVec.ofInt IntKind.u32.bits w &&& BitVec.ofInt IntKind.u32.bits 2).toNat : Int) != 0 with
          | false =>
            conv => whnf
            exact ih2 (1 + 1, e) _ ⟨by dsimp only; omega, by dsimp only; rw [each1 mw w 1 (by omega), ← he, part0 (b := bitOf 1) h2, Bool.and_true]⟩ (by dsimp only; omega) (by rw [hxs]; kernel_rfl)
          | true =>
            conv => whnf
            cases e with
            | false =>
              conv => whnf
              exact ih2 (1 + 1, false) _ ⟨by dsimp only; omega, by dsimp only; rw [each1 mw w 1 (by omega), ← he]; rfl⟩ (by dsimp only; omega) (by rw [hxs]; kernel_rfl)
            | true =>
              conv => whnf
              refine ⟨_, _, hmay _ _ _, ?_⟩
              conv => whnf
              exact ih2 (1 + 1, mw 2) _ ⟨by dsimp only; omega, by dsimp only; rw [each1 mw w 1 (by omega), ← he, part1 (b := bitOf 1) h2]; rfl⟩ (by dsimp only; omega) (by rw [hxs]; kernel_rfl)
        · dsimp only [bitOf]
          conv => whnf
          cases h2 : IntKind.wrap .u32 ((BitVec.ofInt IntKind.u32.bits w &&& BitVec.ofInt IntKind.u32.bits 4).toNat : Int) != 0 with
          | false =>
            conv => whnf
            exact ih2 (2 + 1, e) _ ⟨by dsimp only; omega, by dsimp only; rw [each1 mw w 2 (by omega), ← he, part0 (b := bitOf 2) h2, Bool.and_true]⟩ (by dsimp only; omega) (by rw [hxs]; kernel_rfl)
          | true =>
            conv => whnf
            cases e with
            | false =>
              conv => whnf
              exact ih2 (2 + 1, false) _ ⟨by dsimp only; omega, by dsimp only; rw [each1 mw w 2 (by omega), ← he]; rfl⟩ (by dsimp only; omega) (by rw [hxs]; kernel_rfl)
            | true =>
              conv => whnf
              refine ⟨_, _, hmay _ _ _, ?_⟩
              conv => whnf
              exact ih2 (2 + 1, mw 4) _ ⟨by dsimp only; omega, by dsimp only; rw [each1 mw w 2 (by omega), ← he, part1 (b := bitOf 2) h2]; rfl⟩ (by dsimp only; omega) (by rw [hxs]; kernel_rfl)
        · dsimp only [bitOf]
          conv => whnf
          refine ⟨_, _, hmay _ _ _, ?_⟩
          have e4 : (!(mw w == e)) = false := by rw [he, heach w hI.1 h1]; simp
          conv => whnf
          rw [e4]
          conv => whnf
          have hw : IntKind.wrap .u32 (w + 1) = w + 1 := wrapu32 (by omega) (by omega)
          exact ih (IntKind.wrap .u32 (w + 1)) _ (by rw [hw]; omega) (by rw [hw]; omega) (by rw [hxs]; kernel_rfl)
  · refine call_clean (fn := Try.f3) rfl Try.func3 rfl rfl rfl rfl rfl (Nat.le_of_ble_eq_true rfl) ?_
    conv => whnf
    refine ⟨_, _, hsize _ _, ?_⟩
    conv => whnf
    cases g1 : decide (r > 40000) with
    | true =>
      conv => whnf
      refine ⟨_, _, hlives _ _, ?_⟩
      conv => whnf
    | false =>
      conv => whnf
      cases g2 : decide ((l.length : Int) > 3000) with
      | true =>
        conv => whnf
        refine ⟨_, _, hlives _ _, ?_⟩
        conv => whnf
      | false =>
        conv => whnf
        refine ⟨8, Nat.le_of_ble_eq_true rfl, ?_⟩
        refine rounds_ind (eachS xs) (fun w => 1 ≤ w ∧ w ≤ 8) (fun w => (8 - w).toNat) ?_ _ 1 _ ⟨by omega, by omega⟩ (by decide) (by rw [hxs]; kernel_rfl)
        intro w m' hI ih
        unfold eachS
        rw [hxs]
        conv => whnf
        cases h1 : decide (w < 8) with
        | false =>
          conv => whnf
          refine ⟨_, _, hbits _ _ _, ?_⟩
          conv => whnf
          rw [e1]
          conv => whnf
          refine ⟨_, _, hbits _ _ _, rfl, ?_⟩
          conv => whnf
          rw [e2]
          conv => whnf
          refine ⟨_, _, hmay _ _ _, rfl, ?_⟩
          conv => whnf
          refine ⟨by kernel_rfl, ?_⟩
          conv => whnf
          rw [e3]
          conv => whnf
          refine ⟨_, _, hlives _ _, ?_⟩
          conv => whnf
        | true =>
          have h1 := of_decide_eq_true h1
          conv => whnf
          refine ⟨4, Nat.le_of_ble_eq_true rfl, ?_⟩
          refine rounds_ind (eachS2 xs w) (fun p => p.1 ≤ 3 ∧ p.2 = eachE mw w p.1) (fun p => 3 - p.1) ?_ _ (0, true) _ ⟨by decide, rfl⟩ (by decide) (by rw [hxs]; kernel_rfl)
          intro p m'' hI2 ih2
          obtain ⟨j, e⟩ := p
          obtain ⟨hj, he⟩ := hI2
          dsimp only at hj he ih2 ⊢
          unfold eachS2
          rw [hxs]
          obtain rfl | rfl | rfl | rfl : j = 0 ∨ j = 1 ∨ j = 2 ∨ j = 3 := by omega
          · dsimp only [bitOf]
            conv => whnf
            cases h2 : IntKind.wrap .u32 ((BitVec.ofInt IntKind.u32.bits w &&& BitVec.ofInt IntKind.u32.bits 1).toNat : Int) != 0 with
            | false =>
              conv => whnf
              exact ih2 (0 + 1, e) _ ⟨by dsimp only; omega, by dsimp only; rw [each1 mw w 0 (by omega), ← he, part0 (b := bitOf 0) h2, Bool.and_true]⟩ (by dsimp only; omega) (by rw [hxs]; kernel_rfl)
            | true =>
              conv => whnf
              cases e with
              | false =>
                conv => whnf
                exact ih2 (0 + 1, false) _ ⟨by dsimp only; omega, by dsimp only; rw [each1 mw w 0 (by omega), ← he]; rfl⟩ (by dsimp only; omega) (by rw [hxs]; kernel_rfl)
              | true =>
                conv => whnf
                refine ⟨_, _, hmay _ _ _, ?_⟩
                conv => whnf
                exact ih2 (0 + 1, mw 1) _ ⟨by dsimp only; omega, by dsimp only; rw [each1 mw w 0 (by omega), ← he, part1 (b := bitOf 0) h2]; rfl⟩ (by dsimp only; omega) (by rw [hxs]; kernel_rfl)
          · dsimp only [bitOf]
            conv => whnf
            cases h2 : IntKind.wrap .u32 ((BitVec.ofInt IntKind.u32.bits w &&& BitVec.ofInt IntKind.u32.bits 2).toNat : Int) != 0 with
            | false =>
              conv => whnf
              exact ih2 (1 + 1, e) _ ⟨by dsimp only; omega, by dsimp only; rw [each1 mw w 1 (by omega), ← he, part0 (b := bitOf 1) h2, Bool.and_true]⟩ (by dsimp only; omega) (by rw [hxs]; kernel_rfl)
            | true =>
              conv => whnf
              cases e with
              | false =>
                conv => whnf
                exact ih2 (1 + 1, false) _ ⟨by dsimp only; omega, by dsimp only; rw [each1 mw w 1 (by omega), ← he]; rfl⟩ (by dsimp only; omega) (by rw [hxs]; kernel_rfl)
              | true =>
                conv => whnf
                refine ⟨_, _, hmay _ _ _, ?_⟩
                conv => whnf
                exact ih2 (1 + 1, mw 2) _ ⟨by dsimp only; omega, by dsimp only; rw [each1 mw w 1 (by omega), ← he, part1 (b := bitOf 1) h2]; rfl⟩ (by dsimp only; omega) (by rw [hxs]; kernel_rfl)
          · dsimp only [bitOf]
            conv => whnf
            cases h2 : IntKind.wrap .u32 ((BitVec.ofInt IntKind.u32.bits w &&& BitVec.ofInt IntKind.u32.bits 4).toNat : Int) != 0 with
            | false =>
              conv => whnf
              exact ih2 (2 + 1, e) _ ⟨by dsimp only; omega, by dsimp only; rw [each1 mw w 2 (by omega), ← he, part0 (b := bitOf 2) h2, Bool.and_true]⟩ (by dsimp only; omega) (by rw [hxs]; kernel_rfl)
            | true =>
              conv => whnf
              cases e with
              | false =>
                conv => whnf
                exact ih2 (2 + 1, false) _ ⟨by dsimp only; omega, by dsimp only; rw [each1 mw w 2 (by omega), ← he]; rfl⟩ (by dsimp only; omega) (by rw [hxs]; kernel_rfl)
              | true =>
                conv => whnf
                refine ⟨_, _, hmay _ _ _, ?_⟩
                conv => whnf
                exact ih2 (2 + 1, mw 4) _ ⟨by dsimp only; omega, by dsimp only; rw [each1 mw w 2 (by omega), ← he, part1 (b := bitOf 2) h2]; rfl⟩ (by dsimp only; omega) (by rw [hxs]; kernel_rfl)
          · dsimp only [bitOf]
            conv => whnf
            refine ⟨_, _, hmay _ _ _, ?_⟩
            have e4 : (!(mw w == e)) = false := by rw [he, heach w hI.1 h1]; simp
            conv => whnf
            rw [e4]
            conv => whnf
            have hw : IntKind.wrap .u32 (w + 1) = w + 1 := wrapu32 (by omega) (by omega)
            exact ih (IntKind.wrap .u32 (w + 1)) _ (by rw [hw]; omega) (by rw [hw]; omega) (by rw [hxs]; kernel_rfl)
  · refine call_clean (fn := Try.f3) rfl Try.func3 rfl rfl rfl rfl rfl (Nat.le_of_ble_eq_true rfl) ?_
    conv => whnf
    refine ⟨_, _, hsize _ _, ?_⟩
    conv => whnf
    cases g1 : decide (r > 40000) with
    | true =>
      conv => whnf
      refine ⟨_, _, hlives _ _, ?_⟩
      conv => whnf
    | false =>
      conv => whnf
      refine ⟨8, Nat.le_of_ble_eq_true rfl, ?_⟩
      refine rounds_ind (eachS xs) (fun w => 1 ≤ w ∧ w ≤ 8) (fun w => (8 - w).toNat) ?_ _ 1 _ ⟨by omega, by omega⟩ (by decide) (by rw [hxs]; kernel_rfl)
      intro w m' hI ih
      unfold eachS
      rw [hxs]
      conv => whnf
      cases h1 : decide (w < 8) with
      | false =>
        conv => whnf
        refine ⟨_, _, hbits _ _ _, ?_⟩
        conv => whnf
        rw [e1]
        conv => whnf
        refine ⟨_, _, hbits _ _ _, rfl, ?_⟩
        conv => whnf
        rw [e2]
        conv => whnf
        refine ⟨_, _, hmay _ _ _, rfl, ?_⟩
        conv => whnf
        refine ⟨by kernel_rfl, ?_⟩
        conv => whnf
        rw [e3]
        conv => whnf
        refine ⟨_, _, hlives _ _, ?_⟩
        conv => whnf
      | true =>
        have h1 := of_decide_eq_true h1
        conv => whnf
        refine ⟨4, Nat.le_of_ble_eq_true rfl, ?_⟩
        refine rounds_ind (eachS2 xs w) (fun p => p.1 ≤ 3 ∧ p.2 = eachE mw w p.1) (fun p => 3 - p.1) ?_ _ (0, true) _ ⟨by decide, rfl⟩ (by decide) (by rw [hxs]; kernel_rfl)
        intro p m'' hI2 ih2
        obtain ⟨j, e⟩ := p
        obtain ⟨hj, he⟩ := hI2
        dsimp only at hj he ih2 ⊢
        unfold eachS2
        rw [hxs]
        obtain rfl | rfl | rfl | rfl : j = 0 ∨ j = 1 ∨ j = 2 ∨ j = 3 := by omega
        · dsimp only [bitOf]
          conv => whnf
          cases h2 : IntKind.wrap .u32 ((BitVec.ofInt IntKind.u32.bits w &&& BitVec.ofInt IntKind.u32.bits 1).toNat : Int) != 0 with
          | false =>
            conv => whnf
            exact ih2 (0 + 1, e) _ ⟨by dsimp only; omega, by dsimp only; rw [each1 mw w 0 (by omega), ← he, part0 (b := bitOf 0) h2, Bool.and_true]⟩ (by dsimp only; omega) (by rw [hxs]; kernel_rfl)
          | true =>
            conv => whnf
            cases e with
            | false =>
              conv => whnf
              exact ih2 (0 + 1, false) _ ⟨by dsimp only; omega, by dsimp only; rw [each1 mw w 0 (by omega), ← he]; rfl⟩ (by dsimp only; omega) (by rw [hxs]; kernel_rfl)
            | true =>
              conv => whnf
              refine ⟨_, _, hmay _ _ _, ?_⟩
              conv => whnf
              exact ih2 (0 + 1, mw 1) _ ⟨by dsimp only; omega, by dsimp only; rw [each1 mw w 0 (by omega), ← he, part1 (b := bitOf 0) h2]; rfl⟩ (by dsimp only; omega) (by rw [hxs]; kernel_rfl)
        · dsimp only [bitOf]
          conv => whnf
          cases h2 : IntKind.wrap .u32 ((BitVec.ofInt IntKind.u32.bits w &&& BitVec.ofInt IntKind.u32.bits 2).toNat : Int) != 0 with
          | false =>
            conv => whnf
            exact ih2 (1 + 1, e) _ ⟨by dsimp only; omega, by dsimp only; rw [each1 mw w 1 (by omega), ← he, part0 (b := bitOf 1) h2, Bool.and_true]⟩ (by dsimp only; omega) (by rw [hxs]; kernel_rfl)
          | true =>
            conv => whnf
            cases e with
            | false =>
              conv => whnf
              exact ih2 (1 + 1, false) _ ⟨by dsimp only; omega, by dsimp only; rw [each1 mw w 1 (by omega), ← he]; rfl⟩ (by dsimp only; omega) (by rw [hxs]; kernel_rfl)
            | true =>
              conv => whnf
              refine ⟨_, _, hmay _ _ _, ?_⟩
              conv => whnf
              exact ih2 (1 + 1, mw 2) _ ⟨by dsimp only; omega, by dsimp only; rw [each1 mw w 1 (by omega), ← he, part1 (b := bitOf 1) h2]; rfl⟩ (by dsimp only; omega) (by rw [hxs]; kernel_rfl)
        · dsimp only [bitOf]
          conv => whnf
          cases h2 : IntKind.wrap .u32 ((BitVec.ofInt IntKind.u32.bits w &&& BitVec.ofInt IntKind.u32.bits 4).toNat : Int) != 0 with
          | false =>
            conv => whnf
            exact ih2 (2 + 1, e) _ ⟨by dsimp only; omega, by dsimp only; rw [each1 mw w 2 (by omega), ← he, part0 (b := bitOf 2) h2, Bool.and_true]⟩ (by dsimp only; omega) (by rw [hxs]; kernel_rfl)
          | true =>
            conv => whnf
            cases e with
            | false =>
              conv => whnf
              exact ih2 (2 + 1, false) _ ⟨by dsimp only; omega, by dsimp only; rw [each1 mw w 2 (by omega), ← he]; rfl⟩ (by dsimp only; omega) (by rw [hxs]; kernel_rfl)
            | true =>
              conv => whnf
              refine ⟨_, _, hmay _ _ _, ?_⟩
              conv => whnf
              exact ih2 (2 + 1, mw 4) _ ⟨by dsimp only; omega, by dsimp only; rw [each1 mw w 2 (by omega), ← he, part1 (b := bitOf 2) h2]; rfl⟩ (by dsimp only; omega) (by rw [hxs]; kernel_rfl)
        · dsimp only [bitOf]
          conv => whnf
          refine ⟨_, _, hmay _ _ _, ?_⟩
          have e4 : (!(mw w == e)) = false := by rw [he, heach w hI.1 h1]; simp
          conv => whnf
          rw [e4]
          conv => whnf
          have hw : IntKind.wrap .u32 (w + 1) = w + 1 := wrapu32 (by omega) (by omega)
          exact ih (IntKind.wrap .u32 (w + 1)) _ (by rw [hw]; omega) (by rw [hw]; omega) (by rw [hxs]; kernel_rfl)
  · refine call_clean (fn := Try.f3) rfl Try.func3 rfl rfl rfl rfl rfl (Nat.le_of_ble_eq_true rfl) ?_
    conv => whnf
    refine ⟨_, _, hsize _ _, ?_⟩
    conv => whnf
    cases g1 : decide (r > 40000) with
    | true =>
      conv => whnf
      refine ⟨_, _, hlives _ _, ?_⟩
      conv => whnf
    | false =>
      conv => whnf
      cases g2 : decide ((l.length : Int) > 3000) with
      | true =>
        conv => whnf
        refine ⟨_, _, hlives _ _, ?_⟩
        conv => whnf
      | false =>
        conv => whnf
        refine ⟨8, Nat.le_of_ble_eq_true rfl, ?_⟩
        refine rounds_ind (eachS xs) (fun w => 1 ≤ w ∧ w ≤ 8) (fun w => (8 - w).toNat) ?_ _ 1 _ ⟨by omega, by omega⟩ (by decide) (by rw [hxs]; kernel_rfl)
        intro w m' hI ih
        unfold eachS
        rw [hxs]
        conv => whnf
        cases h1 : decide (w < 8) with
        | false =>
          conv => whnf
          refine ⟨_, _, hbits _ _ _, ?_⟩
          conv => whnf
          rw [e1]
          conv => whnf
          refine ⟨_, _, hbits _ _ _, rfl, ?_⟩
          conv => whnf
          rw [e2]
          conv => whnf
          refine ⟨_, _, hmay _ _ _, rfl, ?_⟩
          conv => whnf
          refine ⟨by kernel_rfl, ?_⟩
          conv => whnf
          rw [e3]
          conv => whnf
          refine ⟨_, _, hlives _ _, ?_⟩
          conv => whnf
        | true =>
          have h1 := of_decide_eq_true h1
          conv => whnf
          refine ⟨4, Nat.le_of_ble_eq_true rfl, ?_⟩
          refine rounds_ind (eachS2 xs w) (fun p => p.1 ≤ 3 ∧ p.2 = eachE mw w p.1) (fun p => 3 - p.1) ?_ _ (0, true) _ ⟨by decide, rfl⟩ (by decide) (by rw [hxs]; kernel_rfl)
          intro p m'' hI2 ih2
          obtain ⟨j, e⟩ := p
          obtain ⟨hj, he⟩ := hI2
          dsimp only at hj he ih2 ⊢
          unfold eachS2
          rw [hxs]
          obtain rfl | rfl | rfl | rfl : j = 0 ∨ j = 1 ∨ j = 2 ∨ j = 3 := by omega
          · dsimp only [bitOf]
            conv => whnf
            cases h2 : IntKind.wrap .u32 ((BitVec.ofInt IntKind.u32.bits w &&& BitVec.ofInt IntKind.u32.bits 1).toNat : Int) != 0 with
            | false =>
              conv => whnf
              exact ih2 (0 + 1, e) _ ⟨by dsimp only; omega, by dsimp only; rw [each1 mw w 0 (by omega), ← he, part0 (b := bitOf 0) h2, Bool.and_true]⟩ (by dsimp only; omega) (by rw [hxs]; kernel_rfl)
            | true =>
              conv => whnf
              cases e with
              | false =>
                conv => whnf
                exact ih2 (0 + 1, false) _ ⟨by dsimp only; omega, by dsimp only; rw [each1 mw w 0 (by omega), ← he]; rfl⟩ (by dsimp only; omega) (by rw [hxs]; kernel_rfl)
              | true =>
                conv => whnf
                refine ⟨_, _, hmay _ _ _, ?_⟩
                conv => whnf
                exact ih2 (0 + 1, mw 1) _ ⟨by dsimp only; omega, by dsimp only; rw [each1 mw w 0 (by omega), ← he, part1 (b := bitOf 0) h2]; rfl⟩ (by dsimp only; omega) (by rw [hxs]; kernel_rfl)
          · dsimp only [bitOf]
            conv => whnf
            cases h2 : IntKind.wrap .u32 ((BitVec.ofInt IntKind.u32.bits w &&& BitVec.ofInt IntKind.u32.bits 2).toNat : Int) != 0 with
            | false =>
              conv => whnf
              exact ih2 (1 + 1, e) _ ⟨by dsimp only; omega, by dsimp only; rw [each1 mw w 1 (by omega), ← he, part0 (b := bitOf 1) h2, Bool.and_true]⟩ (by dsimp only; omega) (by rw [hxs]; kernel_rfl)
            | true =>
              conv => whnf
              cases e with
              | false =>
                conv => whnf
                exact ih2 (1 + 1, false) _ ⟨by dsimp only; omega, by dsimp only; rw [each1 mw w 1 (by omega), ← he]; rfl⟩ (by dsimp only; omega) (by rw [hxs]; kernel_rfl)
              | true =>
                conv => whnf
                refine ⟨_, _, hmay _ _ _, ?_⟩
                conv => whnf
                exact ih2 (1 + 1, mw 2) _ ⟨by dsimp only; omega, by dsimp only; rw [each1 mw w 1 (by omega), ← he, part1 (b := bitOf 1) h2]; rfl⟩ (by dsimp only; omega) (by rw [hxs]; kernel_rfl)
          · dsimp only [bitOf]
            conv => whnf
            cases h2 : IntKind.wrap .u32 ((BitVec.ofInt IntKind.u32.bits w &&& BitVec.ofInt IntKind.u32.bits 4).toNat : Int) != 0 with
            | false =>
              conv => whnf
              exact ih2 (2 + 1, e) _ ⟨by dsimp only; omega, by dsimp only; rw [each1 mw w 2 (by omega), ← he, part0 (b := bitOf 2) h2, Bool.and_true]⟩ (by dsimp only; omega) (by rw [hxs]; kernel_rfl)
            | true =>
              conv => whnf
              cases e with
              | false =>
                conv => whnf
                exact ih2 (2 + 1, false) _ ⟨by dsimp only; omega, by dsimp only; rw [each1 mw w 2 (by omega), ← he]; rfl⟩ (by dsimp only; omega) (by rw [hxs]; kernel_rfl)
              | true =>
                conv => whnf
                refine ⟨_, _, hmay _ _ _, ?_⟩
                conv => whnf
                exact ih2 (2 + 1, mw 4) _ ⟨by dsimp only; omega, by dsimp only; rw [each1 mw w 2 (by omega), ← he, part1 (b := bitOf 2) h2]; rfl⟩ (by dsimp only; omega) (by rw [hxs]; kernel_rfl)
          · dsimp only [bitOf]
            conv => whnf
            refine ⟨_, _, hmay _ _ _, ?_⟩
            have e4 : (!(mw w == e)) = false := by rw [he, heach w hI.1 h1]; simp
            conv => whnf
            rw [e4]
            conv => whnf
            have hw : IntKind.wrap .u32 (w + 1) = w + 1 := wrapu32 (by omega) (by omega)
            exact ih (IntKind.wrap .u32 (w + 1)) _ (by rw [hw]; omega) (by rw [hw]; omega) (by rw [hxs]; kernel_rfl)
end Go.Proofs.Ytejpjkkkknmjkaa.Ab
