import Derived.Test.YtejpjkkkknmjkaaF4
/- Over the engine: access.Bits. -/
namespace Go.Proofs.Ytejpjkkkknmjkaa.Ab
open Go Go.RowKit

def rowsT : List (Int × Int × Int) := [(1, 4, 4), (2, 1, 0), (4, 3, 2), (8, 3, 2), (16, 3, 0), (32, 0, 1)]
def stepB (x : NodeS) (c : CredS) (asked out : Int) (r : Int × Int × Int) : Int :=
  bif (band .u32 asked r.1 != 0) && mayX x c (bif x.kind == 2 then r.2.1 else r.2.2) then bor .u32 out r.1 else out
def outB (x : NodeS) (c : CredS) (asked : Int) (i : Nat) : Int := (rowsT.take i).foldl (stepB x c asked) 0
def bitsX (x : NodeS) (c : CredS) (asked : Int) : Int := outB x c asked 6
def fnB (a b : Int) : AV := .fn 24 [] [.vref [.int .u32 a] 0, .vref [.int .u32 b] 0]
def rowsA : AV := .agg [.int .u32 1, fnB 4 4, .int .u32 2, fnB 1 0, .int .u32 4, fnB 3 2, .int .u32 8, fnB 3 2, .int .u32 16, fnB 3 0, .int .u32 32, fnB 0 1]
set_option maxRecDepth 100000
theorem both_c (m : Nat) (from_ : FuncId) (h : H) (a b : Int) (d : Bool) : evCall TE (m + 1) from_ (fnB a b) [.bool d] h = some (.ret (.int .u32 (bif d then a else b)), h) := by
  cases d
  · skip
    kernel_rfl
  · skip
    kernel_rfl
theorem rows_c (m : Nat) (from_ : FuncId) (h : H) : evCall TE (m + 3) from_ (.fn 14 [] []) [] h = some (.ret rowsA, h) := by
  skip
  kernel_rfl
def bitsS (v : AV) (gen n : Int) (u gr : Int) (gs : AV) (x : NodeS) (asked : Int) (p : Int × Int) : ST :=
  ⟨((((((((RG.empty 48).put 22 (.int .i64 p.1)).put 21 rowsA).put 9 (.ref 2 0 0)).put 8 (.int .u32 p.2)).put 6 (.ref 1 0 0)).put 4 (.ref 0 0 0)).put 3 (.int .u32 asked)).put 1 (.int .i64 n),
    ⟨[.cells [v, .int .u32 gen] ⟨false, 0, false, true⟩, .cells [.int .u32 u, .int .u32 gr, gs] ⟨false, 0, false, true⟩, .cells (attrsS x n) ⟨false, 0, false, true⟩], []⟩⟩
theorem bits_none (m : Nat) (from_ : FuncId) (h : H) (v : AV) (ns : List NodeS) (hv : nodesOk v ns) (gen n : Int) (c : CredS) (asked : Int) (hc : c.ok) (hn : thereS ns n = false) : evCall TE (m + 3) from_ (.fn 8 [] []) [.agg [v, .int .u32 gen], .int .i64 n, credA c, .int .u32 asked] h = some (.ret (.int .u32 0), h) := by
  have hat := fun (f : FuncId) (h : H) => attrs_none m f h v ns hv gen n hn
  obtain ⟨u, gr, gs, l⟩ := c
  obtain ⟨h1, h2⟩ := hc
  dsimp only at h1 h2
  rcases h1 with ⟨rfl, rfl⟩ | ⟨tt, rfl⟩ <;> rcases hv with ⟨rfl, rfl⟩ | ⟨t, rfl⟩
  all_goals refine call_clean (fn := Try.f8) rfl Try.func8 rfl rfl rfl rfl rfl (Nat.le_of_ble_eq_true rfl) ?_
  all_goals conv => whnf
  all_goals refine ⟨_, _, hat _ _, ?_⟩
  all_goals conv => whnf
set_option maxHeartbeats 16000000 in
theorem bits_some (m : Nat) (from_ : FuncId) (h : H) (v : AV) (ns : List NodeS) (hv : nodesOk v ns) (gen n : Int) (c : CredS) (asked : Int) (hc : c.ok) (x : NodeS) (hn : thereS ns n = true) (hx : ns[n.toNat]? = some x) (hok : x.ok) :
    evCall TE (m + 5) from_ (.fn 8 [] []) [.agg [v, .int .u32 gen], .int .i64 n, credA c, .int .u32 asked] h = some (.ret (.int .u32 (bitsX x c asked)), h) := by
  have hat := fun (f : FuncId) (h : H) => attrs_some (m + 2) f h v ns hv gen n x hn hx hok
  have hmay := fun (f : FuncId) (h : H) (what : Int) => may_some m f h v ns hv gen n c what hc x hn hx hok
  obtain ⟨u, gr, gs, l⟩ := c
  obtain ⟨h1, h2⟩ := hc
  dsimp only at h1 h2
  rcases hv with ⟨rfl, rfl⟩ | ⟨t, rfl⟩
  · simp at hx
  rcases h1 with ⟨rfl, rfl⟩ | ⟨tt, rfl⟩
  · refine call_clean (fn := Try.f8) rfl Try.func8 rfl rfl rfl rfl rfl (Nat.le_of_ble_eq_true rfl) ?_
    conv => whnf
    refine ⟨_, _, hat _ _, ?_⟩
    conv => whnf
    refine ⟨_, _, rows_c (m + 1) _ _, ?_⟩
    conv => whnf
    refine ⟨7, Nat.le_of_ble_eq_true rfl, ?_⟩
    refine rounds_ind (bitsS (.sl (nodesA ns) ns.length t) gen n u gr .sl0 x asked) (fun p => 0 ≤ p.1 ∧ p.1 ≤ 6 ∧ p.2 = outB x ⟨u, gr, .sl0, []⟩ asked p.1.toNat) (fun p => (6 - p.1).toNat) ?_ _ (0, 0) _ ⟨by decide, by decide, rfl⟩ (by decide) (by kernel_rfl)
    intro p m' hI ih
    obtain ⟨i, out⟩ := p
    obtain ⟨hI0, hI6, hout⟩ := hI
    dsimp only at hI0 hI6 hout ih ⊢
    have next : ∀ (j : Nat) (r : Int × Int × Int), i = j → rowsT[j]? = some r → outB x ⟨u, gr, .sl0, []⟩ asked (i + 1).toNat = stepB x ⟨u, gr, .sl0, []⟩ asked out r := by
      intro j r hj hr
      rw [hout, hj]
      unfold outB
      rw [show ((j : Int) + 1).toNat = j + 1 by omega, show (j : Int).toNat = j by omega, List.take_add_one, hr]
      simp
    obtain rfl | rfl | rfl | rfl | rfl | rfl | rfl : i = 0 ∨ i = 1 ∨ i = 2 ∨ i = 3 ∨ i = 4 ∨ i = 5 ∨ i = 6 := by omega
    · conv => whnf
      cases h1 : IntKind.wrap .u32 ((BitVec.ofInt IntKind.u32.bits asked &&& BitVec.ofInt IntKind.u32.bits 1).toNat : Int) != 0 with
      | false =>
        conv => whnf
        refine ⟨by kernel_rfl, ?_⟩
        conv => whnf
        refine ih (0 + 1, out) _ ⟨by dsimp only; omega, by dsimp only; omega, ?_⟩ (by dsimp only; omega) (by kernel_rfl)
        rw [next 0 (1, 4, 4) rfl rfl]
        unfold stepB band
        rw [h1]
        rfl
      | true =>
        conv => whnf
        refine ⟨_, _, both_c (m + 3) _ _ 4 4 _, rfl, ?_⟩
        conv => whnf
        refine ⟨_, _, hmay _ _ _, rfl, ?_⟩
        conv => whnf
        refine ⟨by kernel_rfl, ?_⟩
        conv => whnf
        cases h2 : mayX x _ (bif x.kind == 2 then 4 else 4) with
        | false =>
          conv => whnf
          refine ih (0 + 1, out) _ ⟨by dsimp only; omega, by dsimp only; omega, ?_⟩ (by dsimp only; omega) (by kernel_rfl)
          rw [next 0 (1, 4, 4) rfl rfl]
          unfold stepB band
          rw [h1, h2]
          rfl
        | true =>
          conv => whnf
          refine ih (0 + 1, bor .u32 out 1) _ ⟨by dsimp only; omega, by dsimp only; omega, ?_⟩ (by dsimp only; omega) (by kernel_rfl)
          rw [next 0 (1, 4, 4) rfl rfl]
          unfold stepB band
          rw [h1, h2]
          rfl
    · conv => whnf
      cases h1 : IntKind.wrap .u32 ((BitVec.ofInt IntKind.u32.bits asked &&& BitVec.ofInt IntKind.u32.bits 2).toNat : Int) != 0 with
      | false =>
        conv => whnf
        refine ⟨by kernel_rfl, ?_⟩
        conv => whnf
        refine ih (1 + 1, out) _ ⟨by dsimp only; omega, by dsimp only; omega, ?_⟩ (by dsimp only; omega) (by kernel_rfl)
        rw [next 1 (2, 1, 0) rfl rfl]
        unfold stepB band
        rw [h1]
        rfl
      | true =>
        conv => whnf
        refine ⟨_, _, both_c (m + 3) _ _ 1 0 _, rfl, ?_⟩
        conv => whnf
        refine ⟨_, _, hmay _ _ _, rfl, ?_⟩
        conv => whnf
        refine ⟨by kernel_rfl, ?_⟩
        conv => whnf
        cases h2 : mayX x _ (bif x.kind == 2 then 1 else 0) with
        | false =>
          conv => whnf
          refine ih (1 + 1, out) _ ⟨by dsimp only; omega, by dsimp only; omega, ?_⟩ (by dsimp only; omega) (by kernel_rfl)
          rw [next 1 (2, 1, 0) rfl rfl]
          unfold stepB band
          rw [h1, h2]
          rfl
        | true =>
          conv => whnf
          refine ih (1 + 1, bor .u32 out 2) _ ⟨by dsimp only; omega, by dsimp only; omega, ?_⟩ (by dsimp only; omega) (by kernel_rfl)
          rw [next 1 (2, 1, 0) rfl rfl]
          unfold stepB band
          rw [h1, h2]
          rfl
    · conv => whnf
      cases h1 : IntKind.wrap .u32 ((BitVec.ofInt IntKind.u32.bits asked &&& BitVec.ofInt IntKind.u32.bits 4).toNat : Int) != 0 with
      | false =>
        conv => whnf
        refine ⟨by kernel_rfl, ?_⟩
        conv => whnf
        refine ih (2 + 1, out) _ ⟨by dsimp only; omega, by dsimp only; omega, ?_⟩ (by dsimp only; omega) (by kernel_rfl)
        rw [next 2 (4, 3, 2) rfl rfl]
        unfold stepB band
        rw [h1]
        rfl
      | true =>
        conv => whnf
        refine ⟨_, _, both_c (m + 3) _ _ 3 2 _, rfl, ?_⟩
        conv => whnf
        refine ⟨_, _, hmay _ _ _, rfl, ?_⟩
        conv => whnf
        refine ⟨by kernel_rfl, ?_⟩
        conv => whnf
        cases h2 : mayX x _ (bif x.kind == 2 then 3 else 2) with
        | false =>
          conv => whnf
          refine ih (2 + 1, out) _ ⟨by dsimp only; omega, by dsimp only; omega, ?_⟩ (by dsimp only; omega) (by kernel_rfl)
          rw [next 2 (4, 3, 2) rfl rfl]
          unfold stepB band
          rw [h1, h2]
          rfl
        | true =>
          conv => whnf
          refine ih (2 + 1, bor .u32 out 4) _ ⟨by dsimp only; omega, by dsimp only; omega, ?_⟩ (by dsimp only; omega) (by kernel_rfl)
          rw [next 2 (4, 3, 2) rfl rfl]
          unfold stepB band
          rw [h1, h2]
          rfl
    · conv => whnf
      cases h1 : IntKind.wrap .u32 ((BitVec.ofInt IntKind.u32.bits asked &&& BitVec.ofInt IntKind.u32.bits 8).toNat : Int) != 0 with
      | false =>
        conv => whnf
        refine ⟨by kernel_rfl, ?_⟩
        conv => whnf
        refine ih (3 + 1, out) _ ⟨by dsimp only; omega, by dsimp only; omega, ?_⟩ (by dsimp only; omega) (by kernel_rfl)
        rw [next 3 (8, 3, 2) rfl rfl]
        unfold stepB band
        rw [h1]
        rfl
      | true =>
        conv => whnf
        refine ⟨_, _, both_c (m + 3) _ _ 3 2 _, rfl, ?_⟩
        conv => whnf
        refine ⟨_, _, hmay _ _ _, rfl, ?_⟩
        conv => whnf
        refine ⟨by kernel_rfl, ?_⟩
        conv => whnf
        cases h2 : mayX x _ (bif x.kind == 2 then 3 else 2) with
        | false =>
          conv => whnf
          refine ih (3 + 1, out) _ ⟨by dsimp only; omega, by dsimp only; omega, ?_⟩ (by dsimp only; omega) (by kernel_rfl)
          rw [next 3 (8, 3, 2) rfl rfl]
          unfold stepB band
          rw [h1, h2]
          rfl
        | true =>
          conv => whnf
          refine ih (3 + 1, bor .u32 out 8) _ ⟨by dsimp only; omega, by dsimp only; omega, ?_⟩ (by dsimp only; omega) (by kernel_rfl)
          rw [next 3 (8, 3, 2) rfl rfl]
          unfold stepB band
          rw [h1, h2]
          rfl
    · conv => whnf
      cases h1 : IntKind.wrap .u32 ((BitVec.ofInt IntKind.u32.bits asked &&& BitVec.ofInt IntKind.u32.bits 16).toNat : Int) != 0 with
      | false =>
        conv => whnf
        refine ⟨by kernel_rfl, ?_⟩
        conv => whnf
        refine ih (4 + 1, out) _ ⟨by dsimp only; omega, by dsimp only; omega, ?_⟩ (by dsimp only; omega) (by kernel_rfl)
        rw [next 4 (16, 3, 0) rfl rfl]
        unfold stepB band
        rw [h1]
        rfl
      | true =>
        conv => whnf
        refine ⟨_, _, both_c (m + 3) _ _ 3 0 _, rfl, ?_⟩
        conv => whnf
        refine ⟨_, _, hmay _ _ _, rfl, ?_⟩
        conv => whnf
        refine ⟨by kernel_rfl, ?_⟩
        conv => whnf
        cases h2 : mayX x _ (bif x.kind == 2 then 3 else 0) with
        | false =>
          conv => whnf
          refine ih (4 + 1, out) _ ⟨by dsimp only; omega, by dsimp only; omega, ?_⟩ (by dsimp only; omega) (by kernel_rfl)
          rw [next 4 (16, 3, 0) rfl rfl]
          unfold stepB band
          rw [h1, h2]
          rfl
        | true =>
          conv => whnf
          refine ih (4 + 1, bor .u32 out 16) _ ⟨by dsimp only; omega, by dsimp only; omega, ?_⟩ (by dsimp only; omega) (by kernel_rfl)
          rw [next 4 (16, 3, 0) rfl rfl]
          unfold stepB band
          rw [h1, h2]
          rfl
    · conv => whnf
      cases h1 : IntKind.wrap .u32 ((BitVec.ofInt IntKind.u32.bits asked &&& BitVec.ofInt IntKind.u32.bits 32).toNat : Int) != 0 with
      | false =>
        conv => whnf
        refine ⟨by kernel_rfl, ?_⟩
        conv => whnf
        refine ih (5 + 1, out) _ ⟨by dsimp only; omega, by dsimp only; omega, ?_⟩ (by dsimp only; omega) (by kernel_rfl)
        rw [next 5 (32, 0, 1) rfl rfl]
        unfold stepB band
        rw [h1]
        rfl
      | true =>
        conv => whnf
        refine ⟨_, _, both_c (m + 3) _ _ 0 1 _, rfl, ?_⟩
        conv => whnf
        refine ⟨_, _, hmay _ _ _, rfl, ?_⟩
        conv => whnf
        refine ⟨by kernel_rfl, ?_⟩
        conv => whnf
        cases h2 : mayX x _ (bif x.kind == 2 then 0 else 1) with
        | false =>
          conv => whnf
          refine ih (5 + 1, out) _ ⟨by dsimp only; omega, by dsimp only; omega, ?_⟩ (by dsimp only; omega) (by kernel_rfl)
          rw [next 5 (32, 0, 1) rfl rfl]
          unfold stepB band
          rw [h1, h2]
          rfl
        | true =>
          conv => whnf
          refine ih (5 + 1, bor .u32 out 32) _ ⟨by dsimp only; omega, by dsimp only; omega, ?_⟩ (by dsimp only; omega) (by kernel_rfl)
          rw [next 5 (32, 0, 1) rfl rfl]
          unfold stepB band
          rw [h1, h2]
          rfl
    · conv => whnf
      rw [hout]
      rfl
  · refine call_clean (fn := Try.f8) rfl Try.func8 rfl rfl rfl rfl rfl (Nat.le_of_ble_eq_true rfl) ?_
    conv => whnf
    refine ⟨_, _, hat _ _, ?_⟩
    conv => whnf
    refine ⟨_, _, rows_c (m + 1) _ _, ?_⟩
    conv => whnf
    refine ⟨7, Nat.le_of_ble_eq_true rfl, ?_⟩
    refine rounds_ind (bitsS (.sl (nodesA ns) ns.length t) gen n u gr (.sl (numsA .u32 l) l.length tt) x asked) (fun p => 0 ≤ p.1 ∧ p.1 ≤ 6 ∧ p.2 = outB x ⟨u, gr, (.sl (numsA .u32 l) l.length tt), l⟩ asked p.1.toNat) (fun p => (6 - p.1).toNat) ?_ _ (0, 0) _ ⟨by decide, by decide, rfl⟩ (by decide) (by kernel_rfl)
    intro p m' hI ih
    obtain ⟨i, out⟩ := p
    obtain ⟨hI0, hI6, hout⟩ := hI
    dsimp only at hI0 hI6 hout ih ⊢
    have next : ∀ (j : Nat) (r : Int × Int × Int), i = j → rowsT[j]? = some r → outB x ⟨u, gr, (.sl (numsA .u32 l) l.length tt), l⟩ asked (i + 1).toNat = stepB x ⟨u, gr, (.sl (numsA .u32 l) l.length tt), l⟩ asked out r := by
      intro j r hj hr
      rw [hout, hj]
      unfold outB
      rw [show ((j : Int) + 1).toNat = j + 1 by omega, show (j : Int).toNat = j by omega, List.take_add_one, hr]
      simp
    obtain rfl | rfl | rfl | rfl | rfl | rfl | rfl : i = 0 ∨ i = 1 ∨ i = 2 ∨ i = 3 ∨ i = 4 ∨ i = 5 ∨ i = 6 := by omega
    · conv => whnf
      cases h1 : IntKind.wrap .u32 ((BitVec.ofInt IntKind.u32.bits asked &&& BitVec.ofInt IntKind.u32.bits 1).toNat : Int) != 0 with
      | false =>
        conv => whnf
        refine ⟨by kernel_rfl, ?_⟩
        conv => whnf
        refine ih (0 + 1, out) _ ⟨by dsimp only; omega, by dsimp only; omega, ?_⟩ (by dsimp only; omega) (by kernel_rfl)
        rw [next 0 (1, 4, 4) rfl rfl]
        unfold stepB band
        rw [h1]
        rfl
      | true =>
        conv => whnf
        refine ⟨_, _, both_c (m + 3) _ _ 4 4 _, rfl, ?_⟩
        conv => whnf
        refine ⟨_, _, hmay _ _ _, rfl, ?_⟩
        conv => whnf
        refine ⟨by kernel_rfl, ?_⟩
        conv => whnf
        cases h2 : mayX x _ (bif x.kind == 2 then 4 else 4) with
        | false =>
          conv => whnf
          refine ih (0 + 1, out) _ ⟨by dsimp only; omega, by dsimp only; omega, ?_⟩ (by dsimp only; omega) (by kernel_rfl)
          rw [next 0 (1, 4, 4) rfl rfl]
          unfold stepB band
          rw [h1, h2]
          rfl
        | true =>
          conv => whnf
          refine ih (0 + 1, bor .u32 out 1) _ ⟨by dsimp only; omega, by dsimp only; omega, ?_⟩ (by dsimp only; omega) (by kernel_rfl)
          rw [next 0 (1, 4, 4) rfl rfl]
          unfold stepB band
          rw [h1, h2]
          rfl
    · conv => whnf
      cases h1 : IntKind.wrap .u32 ((BitVec.ofInt IntKind.u32.bits asked &&& BitVec.ofInt IntKind.u32.bits 2).toNat : Int) != 0 with
      | false =>
        conv => whnf
        refine ⟨by kernel_rfl, ?_⟩
        conv => whnf
        refine ih (1 + 1, out) _ ⟨by dsimp only; omega, by dsimp only; omega, ?_⟩ (by dsimp only; omega) (by kernel_rfl)
        rw [next 1 (2, 1, 0) rfl rfl]
        unfold stepB band
        rw [h1]
        rfl
      | true =>
        conv => whnf
        refine ⟨_, _, both_c (m + 3) _ _ 1 0 _, rfl, ?_⟩
        conv => whnf
        refine ⟨_, _, hmay _ _ _, rfl, ?_⟩
        conv => whnf
        refine ⟨by kernel_rfl, ?_⟩
        conv => whnf
        cases h2 : mayX x _ (bif x.kind == 2 then 1 else 0) with
        | false =>
          conv => whnf
          refine ih (1 + 1, out) _ ⟨by dsimp only; omega, by dsimp only; omega, ?_⟩ (by dsimp only; omega) (by kernel_rfl)
          rw [next 1 (2, 1, 0) rfl rfl]
          unfold stepB band
          rw [h1, h2]
          rfl
        | true =>
          conv => whnf
          refine ih (1 + 1, bor .u32 out 2) _ ⟨by dsimp only; omega, by dsimp only; omega, ?_⟩ (by dsimp only; omega) (by kernel_rfl)
          rw [next 1 (2, 1, 0) rfl rfl]
          unfold stepB band
          rw [h1, h2]
          rfl
    · conv => whnf
      cases h1 : IntKind.wrap .u32 ((BitVec.ofInt IntKind.u32.bits asked &&& BitVec.ofInt IntKind.u32.bits 4).toNat : Int) != 0 with
      | false =>
        conv => whnf
        refine ⟨by kernel_rfl, ?_⟩
        conv => whnf
        refine ih (2 + 1, out) _ ⟨by dsimp only; omega, by dsimp only; omega, ?_⟩ (by dsimp only; omega) (by kernel_rfl)
        rw [next 2 (4, 3, 2) rfl rfl]
        unfold stepB band
        rw [h1]
        rfl
      | true =>
        conv => whnf
        refine ⟨_, _, both_c (m + 3) _ _ 3 2 _, rfl, ?_⟩
        conv => whnf
        refine ⟨_, _, hmay _ _ _, rfl, ?_⟩
        conv => whnf
        refine ⟨by kernel_rfl, ?_⟩
        conv => whnf
        cases h2 : mayX x _ (bif x.kind == 2 then 3 else 2) with
        | false =>
          conv => whnf
          refine ih (2 + 1, out) _ ⟨by dsimp only; omega, by dsimp only; omega, ?_⟩ (by dsimp only; omega) (by kernel_rfl)
          rw [next 2 (4, 3, 2) rfl rfl]
          unfold stepB band
          rw [h1, h2]
          rfl
        | true =>
          conv => whnf
          refine ih (2 + 1, bor .u32 out 4) _ ⟨by dsimp only; omega, by dsimp only; omega, ?_⟩ (by dsimp only; omega) (by kernel_rfl)
          rw [next 2 (4, 3, 2) rfl rfl]
          unfold stepB band
          rw [h1, h2]
          rfl
    · conv => whnf
      cases h1 : IntKind.wrap .u32 ((BitVec.ofInt IntKind.u32.bits asked &&& BitVec.ofInt IntKind.u32.bits 8).toNat : Int) != 0 with
      | false =>
        conv => whnf
        refine ⟨by kernel_rfl, ?_⟩
        conv => whnf
        refine ih (3 + 1, out) _ ⟨by dsimp only; omega, by dsimp only; omega, ?_⟩ (by dsimp only; omega) (by kernel_rfl)
        rw [next 3 (8, 3, 2) rfl rfl]
        unfold stepB band
        rw [h1]
        rfl
      | true =>
        conv => whnf
        refine ⟨_, _, both_c (m + 3) _ _ 3 2 _, rfl, ?_⟩
        conv => whnf
        refine ⟨_, _, hmay _ _ _, rfl, ?_⟩
        conv => whnf
        refine ⟨by kernel_rfl, ?_⟩
        conv => whnf
        cases h2 : mayX x _ (bif x.kind == 2 then 3 else 2) with
        | false =>
          conv => whnf
          refine ih (3 + 1, out) _ ⟨by dsimp only; omega, by dsimp only; omega, ?_⟩ (by dsimp only; omega) (by kernel_rfl)
          rw [next 3 (8, 3, 2) rfl rfl]
          unfold stepB band
          rw [h1, h2]
          rfl
        | true =>
          conv => whnf
          refine ih (3 + 1, bor .u32 out 8) _ ⟨by dsimp only; omega, by dsimp only; omega, ?_⟩ (by dsimp only; omega) (by kernel_rfl)
          rw [next 3 (8, 3, 2) rfl rfl]
          unfold stepB band
          rw [h1, h2]
          rfl
    · conv => whnf
      cases h1 : IntKind.wrap .u32 ((BitVec.ofInt IntKind.u32.bits asked &&& BitVec.ofInt IntKind.u32.bits 16).toNat : Int) != 0 with
      | false =>
        conv => whnf
        refine ⟨by kernel_rfl, ?_⟩
        conv => whnf
        refine ih (4 + 1, out) _ ⟨by dsimp only; omega, by dsimp only; omega, ?_⟩ (by dsimp only; omega) (by kernel_rfl)
        rw [next 4 (16, 3, 0) rfl rfl]
        unfold stepB band
        rw [h1]
        rfl
      | true =>
        conv => whnf
        refine ⟨_, _, both_c (m + 3) _ _ 3 0 _, rfl, ?_⟩
        conv => whnf
        refine ⟨_, _, hmay _ _ _, rfl, ?_⟩
        conv => whnf
        refine ⟨by kernel_rfl, ?_⟩
        conv => whnf
        cases h2 : mayX x _ (bif x.kind == 2 then 3 else 0) with
        | false =>
          conv => whnf
          refine ih (4 + 1, out) _ ⟨by dsimp only; omega, by dsimp only; omega, ?_⟩ (by dsimp only; omega) (by kernel_rfl)
          rw [next 4 (16, 3, 0) rfl rfl]
          unfold stepB band
          rw [h1, h2]
          rfl
        | true =>
          conv => whnf
          refine ih (4 + 1, bor .u32 out 16) _ ⟨by dsimp only; omega, by dsimp only; omega, ?_⟩ (by dsimp only; omega) (by kernel_rfl)
          rw [next 4 (16, 3, 0) rfl rfl]
          unfold stepB band
          rw [h1, h2]
          rfl
    · conv => whnf
      cases h1 : IntKind.wrap .u32 ((BitVec.ofInt IntKind.u32.bits asked &&& BitVec.ofInt IntKind.u32.bits 32).toNat : Int) != 0 with
      | false =>
        conv => whnf
        refine ⟨by kernel_rfl, ?_⟩
        conv => whnf
        refine ih (5 + 1, out) _ ⟨by dsimp only; omega, by dsimp only; omega, ?_⟩ (by dsimp only; omega) (by kernel_rfl)
        rw [next 5 (32, 0, 1) rfl rfl]
        unfold stepB band
        rw [h1]
        rfl
      | true =>
        conv => whnf
        refine ⟨_, _, both_c (m + 3) _ _ 0 1 _, rfl, ?_⟩
        conv => whnf
        refine ⟨_, _, hmay _ _ _, rfl, ?_⟩
        conv => whnf
        refine ⟨by kernel_rfl, ?_⟩
        conv => whnf
        cases h2 : mayX x _ (bif x.kind == 2 then 0 else 1) with
        | false =>
          conv => whnf
          refine ih (5 + 1, out) _ ⟨by dsimp only; omega, by dsimp only; omega, ?_⟩ (by dsimp only; omega) (by kernel_rfl)
          rw [next 5 (32, 0, 1) rfl rfl]
          unfold stepB band
          rw [h1, h2]
          rfl
        | true =>
          conv => whnf
          refine ih (5 + 1, bor .u32 out 32) _ ⟨by dsimp only; omega, by dsimp only; omega, ?_⟩ (by dsimp only; omega) (by kernel_rfl)
          rw [next 5 (32, 0, 1) rfl rfl]
          unfold stepB band
          rw [h1, h2]
          rfl
    · conv => whnf
      rw [hout]
      rfl
end Go.Proofs.Ytejpjkkkknmjkaa.Ab
