import Derived.Test.YtnkeijebkpjdgaaMLookKeeps15
import Derived.Test.YtnkeijebkpjdgaaMLookKeeps18
import Derived.Test.YtnkeijebkpjdgaaMLookKeeps19
import Derived.Test.YtnkeijebkpjdgaaMLookKeeps20
set_option linter.unusedVariables false
set_option linter.unusedSimpArgs false
/- Over the engine: access.Bits. -/
namespace Go.Proofs.Ytnkeijebkpjdgaa.Ab
open Go Go.RowKit

def rowsT : List (Int × Int × Int) := [(1, 4, 4), (2, 1, 0), (4, 3, 2), (8, 3, 2), (16, 3, 0), (32, 0, 1)]
def stepB (x : NodeS) (c : CredS) (asked out : Int) (r : Int × Int × Int) : Int :=
  bif (band .u32 asked r.1 != 0) && mayX x c (bif x.kind == 2 then r.2.1 else r.2.2) then bor .u32 out r.1 else out
def outB (x : NodeS) (c : CredS) (asked : Int) (i : Nat) : Int := (rowsT.take i).foldl (stepB x c asked) 0
def bitsX (x : NodeS) (c : CredS) (asked : Int) : Int := outB x c asked 6
def fnB (a b : Int) : AV := .fn 89 [] [.vref [.int .u32 a] 0, .vref [.int .u32 b] 0]
def rowsA : AV := .agg [.int .u32 1, fnB 4 4, .int .u32 2, fnB 1 0, .int .u32 4, fnB 3 2, .int .u32 8, fnB 3 2, .int .u32 16, fnB 3 0, .int .u32 32, fnB 0 1]
set_option maxRecDepth 100000
theorem both_c (m : Nat) (from_ : FuncId) (h : H) (a b : Int) (d : Bool) : evCall TE (m + 1) from_ (fnB a b) [.bool d] h = some (.ret (.int .u32 (bif d then a else b)), h) := by
  cases d
  · skip
    kernel_rfl
  · skip
    kernel_rfl
theorem rows_c (m : Nat) (from_ : FuncId) (h : H) : evCall TE (m + 3) from_ (.fn 83 [] []) [] h = some (.ret rowsA, h) := by
  skip
  kernel_rfl
def bitsS (v : AV) (gen n : Int) (u gr : Int) (gs : AV) (x : NodeS) (asked : Int) (p : Int × Int) : ST :=
  ⟨RG.of 48 [(22, .int .i64 p.1), (21, rowsA), (9, .ref 2 0 0), (8, .int .u32 p.2), (6, .ref 1 0 0), (4, .ref 0 0 0), (3, .int .u32 asked), (1, .int .i64 n)],
    ⟨[.cells [v, .int .u32 gen] ⟨false, 0, false, true⟩, .cells [.int .u32 u, .int .u32 gr, gs] ⟨false, 0, false, true⟩, .cells (attrsS x n) ⟨false, 0, false, true⟩], []⟩⟩
set_option maxHeartbeats 16000000 in
theorem bits_some (m : Nat) (from_ : FuncId) (h : H) (v : AV) (ns : List NodeS) (hv : nodesOk v ns) (gen n : Int) (c : CredS) (asked : Int) (hc : c.ok) (x : NodeS) (hn : thereS ns n = true) (hx : ns[n.toNat]? = some x) (hok : x.ok) :
    evCall TE (m + 5) from_ (.fn 71 [] []) [.agg [v, .int .u32 gen], .int .i64 n, credA c, .int .u32 asked] h = some (.ret (.int .u32 (bitsX x c asked)), h) := by
  have hat := fun (f : FuncId) (h : H) => attrs_some (m + 2) f h v ns hv gen n x hn hx hok
  have hmay := fun (f : FuncId) (h : H) (what : Int) => may_some m f h v ns hv gen n c what hc x hn hx hok
  obtain ⟨u, gr, gs, l⟩ := c
  obtain ⟨h1, h2⟩ := hc
  dsimp only at h1 h2
  rcases hv with ⟨rfl, rfl⟩ | ⟨t, rfl⟩
  · simp at hx
  rcases h1 with ⟨rfl, rfl⟩ | ⟨tt, rfl⟩
  · refine call_clean (fn := Try.f71) rfl Try.func71 rfl rfl rfl rfl rfl (Nat.le_of_ble_eq_true rfl) ?_
    conv => whnf
    refine ⟨_, _, hat _ _, ?_⟩
    conv => whnf
    refine ⟨_, _, rows_c (m + 1) _ _, ?_⟩
    conv => whnf
    refine ⟨7, Nat.le_of_ble_eq_true rfl, ?_⟩
    refine rounds_ind (bitsS (.sl (nodesA ns) ns.length t) gen n u gr .sl0 x asked) (fun p => 0 ≤ p.1 ∧ p.1 ≤ 6 ∧ p.2 = outB x ⟨u, gr, .sl0, []⟩ asked p.1.toNat) (fun p => (6 - p.1).toNat) ?_ _ (0, 0) _ ⟨by decide, by decide, rfl⟩ (by decide) (by kernel_rfl)
    intro p m' hI ih
    obtain ⟨i, out⟩ := p
    obtain ⟨hI0, hI6, hout⟩ := hI
    dsimp only at hI0 hI6 hout ih ⊢
    have next : ∀ (j : Nat) (r : Int × Int × Int), i = j → rowsT[j]? = some r → outB x ⟨u, gr, .sl0, []⟩ asked (i + 1).toNat = stepB x ⟨u, gr, .sl0, []⟩ asked out r := by
      intro j r hj hr
      rw [hout, hj]
      unfold outB
      rw [show ((j : Int) + 1).toNat = j + 1 by omega, show (j : Int).toNat = j by omega, List.take_add_one, hr]
      simp
    obtain rfl | rfl | rfl | rfl | rfl | rfl | rfl : i = 0 ∨ i = 1 ∨ i = 2 ∨ i = 3 ∨ i = 4 ∨ i = 5 ∨ i = 6 := by omega
    · conv => whnf
      cases h1 : IntKind.wrap .u32 ((BitVec.ofInt IntKind.u32.bits asked &&& BitVec.ofInt IntKind.u32.bits 1).toNat : Int) != 0 with
      | false =>
        conv => whnf
        refine ⟨by kernel_rfl, ?_⟩
        conv => whnf
        refine ih (0 + 1, out) _ ⟨by dsimp only; omega, by dsimp only; omega, ?_⟩ (by dsimp only; omega) (by kernel_rfl)
        rw [next 0 (1, 4, 4) rfl rfl]
        unfold stepB band
        rw [h1]
        rfl
      | true =>
        conv => whnf
        refine ⟨_, _, both_c (m + 3) _ _ 4 4 _, rfl, ?_⟩
        conv => whnf
        refine ⟨_, _, hmay _ _ _, rfl, ?_⟩
        conv => whnf
        refine ⟨by kernel_rfl, ?_⟩
        conv => whnf
        cases h2 : mayX x _ (bif x.kind == 2 then 4 else 4) with
        | false =>
          conv => whnf
          refine ih (0 + 1, out) _ ⟨by dsimp only; omega, by dsimp only; omega, ?_⟩ (by dsimp only; omega) (by kernel_rfl)
          rw [next 0 (1, 4, 4) rfl rfl]
          unfold stepB band
          rw [h1, h2]
          rfl
        | true =>
          conv => whnf
          refine ih (0 + 1, bor .u32 out 1) _ ⟨by dsimp only; omega, by dsimp only; omega, ?_⟩ (by dsimp only; omega) (by kernel_rfl)
          rw [next 0 (1, 4, 4) rfl rfl]
          unfold stepB band
          rw [h1, h2]
          rfl
    · conv => whnf
      cases h1 : IntKind.wrap .u32 ((BitVec.ofInt IntKind.u32.bits asked &&& BitVec.ofInt IntKind.u32.bits 2).toNat : Int) != 0 with
      | false =>
        conv => whnf
        refine ⟨by kernel_rfl, ?_⟩
        conv => whnf
        refine ih (1 + 1, out) _ ⟨by dsimp only; omega, by dsimp only; omega, ?_⟩ (by dsimp only; omega) (by kernel_rfl)
        rw [next 1 (2, 1, 0) rfl rfl]
        unfold stepB band
        rw [h1]
        rfl
      | true =>
        conv => whnf
        refine ⟨_, _, both_c (m + 3) _ _ 1 0 _, rfl, ?_⟩
        conv => whnf
        refine ⟨_, _, hmay _ _ _, rfl, ?_⟩
        conv => whnf
        refine ⟨by kernel_rfl, ?_⟩
        conv => whnf
        cases h2 : mayX x _ (bif x.kind == 2 then 1 else 0) with
        | false =>
          conv => whnf
          refine ih (1 + 1, out) _ ⟨by dsimp only; omega, by dsimp only; omega, ?_⟩ (by dsimp only; omega) (by kernel_rfl)
          rw [next 1 (2, 1, 0) rfl rfl]
          unfold stepB band
          rw [h1, h2]
          rfl
        | true =>
          conv => whnf
          refine ih (1 + 1, bor .u32 out 2) _ ⟨by dsimp only; omega, by dsimp only; omega, ?_⟩ (by dsimp only; omega) (by kernel_rfl)
          rw [next 1 (2, 1, 0) rfl rfl]
          unfold stepB band
          rw [h1, h2]
          rfl
    · conv => whnf
      cases h1 : IntKind.wrap .u32 ((BitVec.ofInt IntKind.u32.bits asked &&& BitVec.ofInt IntKind.u32.bits 4).toNat : Int) != 0 with
      | false =>
        conv => whnf
        refine ⟨by kernel_rfl, ?_⟩
        conv => whnf
        refine ih (2 + 1, out) _ ⟨by dsimp only; omega, by dsimp only; omega, ?_⟩ (by dsimp only; omega) (by kernel_rfl)
        rw [next 2 (4, 3, 2) rfl rfl]
        unfold stepB band
        rw [h1]
        rfl
      | true =>
        conv => whnf
        refine ⟨_, _, both_c (m + 3) _ _ 3 2 _, rfl, ?_⟩
        conv => whnf
        refine ⟨_, _, hmay _ _ _, rfl, ?_⟩
        conv => whnf
        refine ⟨by kernel_rfl, ?_⟩
        conv => whnf
        cases h2 : mayX x _ (bif x.kind == 2 then 3 else 2) with
        | false =>
          conv => whnf
          refine ih (2 + 1, out) _ ⟨by dsimp only; omega, by dsimp only; omega, ?_⟩ (by dsimp only; omega) (by kernel_rfl)
          rw [next 2 (4, 3, 2) rfl rfl]
          unfold stepB band
          rw [h1, h2]
          rfl
        | true =>
          conv => whnf
          refine ih (2 + 1, bor .u32 out 4) _ ⟨by dsimp only; omega, by dsimp only; omega, ?_⟩ (by dsimp only; omega) (by kernel_rfl)
          rw [next 2 (4, 3, 2) rfl rfl]
          unfold stepB band
          rw [h1, h2]
          rfl
    · conv => whnf
      cases h1 : IntKind.wrap .u32 ((BitVec.ofInt IntKind.u32.bits asked &&& BitVec.ofInt IntKind.u32.bits 8).toNat : Int) != 0 with
      | false =>
        conv => whnf
        refine ⟨by kernel_rfl, ?_⟩
        conv => whnf
        refine ih (3 + 1, out) _ ⟨by dsimp only; omega, by dsimp only; omega, ?_⟩ (by dsimp only; omega) (by kernel_rfl)
        rw [next 3 (8, 3, 2) rfl rfl]
        unfold stepB band
        rw [h1]
        rfl
      | true =>
        conv => whnf
        refine ⟨_, _, both_c (m + 3) _ _ 3 2 _, rfl, ?_⟩
        conv => whnf
        refine ⟨_, _, hmay _ _ _, rfl, ?_⟩
        conv => whnf
        refine ⟨by kernel_rfl, ?_⟩
        conv => whnf
        cases h2 : mayX x _ (bif x.kind == 2 then 3 else 2) with
        | false =>
          conv => whnf
          refine ih (3 + 1, out) _ ⟨by dsimp only; omega, by dsimp only; omega, ?_⟩ (by dsimp only; omega) (by kernel_rfl)
          rw [next 3 (8, 3, 2) rfl rfl]
          unfold stepB band
          rw [h1, h2]
          rfl
        | true =>
          conv => whnf
          refine ih (3 + 1, bor .u32 out 8) _ ⟨by dsimp only; omega, by dsimp only; omega, ?_⟩ (by dsimp only; omega) (by kernel_rfl)
          rw [next 3 (8, 3, 2) rfl rfl]
          unfold stepB band
          rw [h1, h2]
          rfl
    · conv => whnf
      cases h1 : IntKind.wrap .u32 ((BitVec.ofInt IntKind.u32.bits asked &&& BitVec.ofInt IntKind.u32.bits 16).toNat : Int) != 0 with
      | false =>
        conv => whnf
        refine ⟨by kernel_rfl, ?_⟩
        conv => whnf
        refine ih (4 + 1, out) _ ⟨by dsimp only; omega, by dsimp only; omega, ?_⟩ (by dsimp only; omega) (by kernel_rfl)
        rw [next 4 (16, 3, 0) rfl rfl]
        unfold stepB band
        rw [h1]
        rfl
      | true =>
        conv => whnf
        refine ⟨_, _, both_c (m + 3) _ _ 3 0 _, rfl, ?_⟩
        conv => whnf
        refine ⟨_, _, hmay _ _ _, rfl, ?_⟩
        conv => whnf
        refine ⟨by kernel_rfl, ?_⟩
        conv => whnf
        cases h2 : mayX x _ (bif x.kind == 2 then 3 else 0) with
        | false =>
          conv => whnf
          refine ih (4 + 1, out) _ ⟨by dsimp only; omega, by dsimp only; omega, ?_⟩ (by dsimp only; omega) (by kernel_rfl)
          rw [next 4 (16, 3, 0) rfl rfl]
          unfold stepB band
          rw [h1, h2]
          rfl
        | true =>
          conv => whnf
          refine ih (4 + 1, bor .u32 out 16) _ ⟨by dsimp only; omega, by dsimp only; omega, ?_⟩ (by dsimp only; omega) (by kernel_rfl)
          rw [next 4 (16, 3, 0) rfl rfl]
          unfold stepB band
          rw [h1, h2]
          rfl
    · conv => whnf
      cases h1 : IntKind.wrap .u32 ((BitVec.ofInt IntKind.u32.bits asked &&& BitVec.ofInt IntKind.u32.bits 32).toNat : Int) != 0 with
      | false =>
        conv => whnf
        refine ⟨by kernel_rfl, ?_⟩
        conv => whnf
        refine ih (5 + 1, out) _ ⟨by dsimp only; omega, by dsimp only; omega, ?_⟩ (by dsimp only; omega) (by kernel_rfl)
        rw [next 5 (32, 0, 1) rfl rfl]
        unfold stepB band
        rw [h1]
        rfl
      | true =>
        conv => whnf
        refine ⟨_, _, both_c (m + 3) _ _ 0 1 _, rfl, ?_⟩
        conv => whnf
        refine ⟨_, _, hmay _ _ _, rfl, ?_⟩
        conv => whnf
        refine ⟨by kernel_rfl, ?_⟩
        conv => whnf
        cases h2 : mayX x _ (bif x.kind == 2 then 0 else 1) with
        | false =>
          conv => whnf
          refine ih (5 + 1, out) _ ⟨by dsimp only; omega, by dsimp only; omega, ?_⟩ (by dsimp only; omega) (by kernel_rfl)
          rw [next 5 (32, 0, 1) rfl rfl]
          unfold stepB band
          rw [h1, h2]
          rfl
        | true =>
          conv => whnf
          refine ih (5 + 1, bor .u32 out 32) _ ⟨by dsimp only; omega, by dsimp only; omega, ?_⟩ (by dsimp only; omega) (by kernel_rfl)
          rw [next 5 (32, 0, 1) rfl rfl]
          unfold stepB band
          rw [h1, h2]
          rfl
    · conv => whnf
      rw [hout]
      rfl
  · refine call_clean (fn := Try.f71) rfl Try.func71 rfl rfl rfl rfl rfl (Nat.le_of_ble_eq_true rfl) ?_
    conv => whnf
    refine ⟨_, _, hat _ _, ?_⟩
    conv => whnf
    refine ⟨_, _, rows_c (m + 1) _ _, ?_⟩
    conv => whnf
    refine ⟨7, Nat.le_of_ble_eq_true rfl, ?_⟩
    refine rounds_ind (bitsS (.sl (nodesA ns) ns.length t) gen n u gr (.sl (numsA .u32 l) l.length tt) x asked) (fun p => 0 ≤ p.1 ∧ p.1 ≤ 6 ∧ p.2 = outB x ⟨u, gr, (.sl (numsA .u32 l) l.length tt), l⟩ asked p.1.toNat) (fun p => (6 - p.1).toNat) ?_ _ (0, 0) _ ⟨by decide, by decide, rfl⟩ (by decide) (by kernel_rfl)
    intro p m' hI ih
    obtain ⟨i, out⟩ := p
    obtain ⟨hI0, hI6, hout⟩ := hI
    dsimp only at hI0 hI6 hout ih ⊢
    have next : ∀ (j : Nat) (r : Int × Int × Int), i = j → rowsT[j]? = some r → outB x ⟨u, gr, (.sl (numsA .u32 l) l.length tt), l⟩ asked (i + 1).toNat = stepB x ⟨u, gr, (.sl (numsA .u32 l) l.length tt), l⟩ asked out r := by
      intro j r hj hr
      rw [hout, hj]
      unfold outB
      rw [show ((j : Int) + 1).toNat = j + 1 by omega, show (j : Int).toNat = j by omega, List.take_add_one, hr]
      simp
    obtain rfl | rfl | rfl | rfl | rfl | rfl | rfl : i = 0 ∨ i = 1 ∨ i = 2 ∨ i = 3 ∨ i = 4 ∨ i = 5 ∨ i = 6 := by omega
    · conv => whnf
      cases h1 : IntKind.wrap .u32 ((BitVec.ofInt IntKind.u32.bits asked &&& BitVec.ofInt IntKind.u32.bits 1).toNat : Int) != 0 with
      | false =>
        conv => whnf
        refine ⟨by kernel_rfl, ?_⟩
        conv => whnf
        refine ih (0 + 1, out) _ ⟨by dsimp only; omega, by dsimp only; omega, ?_⟩ (by dsimp only; omega) (by kernel_rfl)
        rw [next 0 (1, 4, 4) rfl rfl]
        unfold stepB band
        rw [h1]
        rfl
      | true =>
        conv => whnf
        refine ⟨_, _, both_c (m + 3) _ _ 4 4 _, rfl, ?_⟩
        conv => whnf
        refine ⟨_, _, hmay _ _ _, rfl, ?_⟩
        conv => whnf
        refine ⟨by kernel_rfl, ?_⟩
        conv => whnf
        cases h2 : mayX x _ (bif x.kind == 2 then 4 else 4) with
        | false =>
          conv => whnf
          refine ih (0 + 1, out) _ ⟨by dsimp only; omega, by dsimp only; omega, ?_⟩ (by dsimp only; omega) (by kernel_rfl)
          rw [next 0 (1, 4, 4) rfl rfl]
          unfold stepB band
          rw [h1, h2]
          rfl
        | true =>
          conv => whnf
          refine ih (0 + 1, bor .u32 out 1) _ ⟨by dsimp only; omega, by dsimp only; omega, ?_⟩ (by dsimp only; omega) (by kernel_rfl)
          rw [next 0 (1, 4, 4) rfl rfl]
          unfold stepB band
          rw [h1, h2]
          rfl
    · conv => whnf
      cases h1 : IntKind.wrap .u32 ((BitVec.ofInt IntKind.u32.bits asked &&& BitVec.ofInt IntKind.u32.bits 2).toNat : Int) != 0 with
      | false =>
        conv => whnf
        refine ⟨by kernel_rfl, ?_⟩
        conv => whnf
        refine ih (1 + 1, out) _ ⟨by dsimp only; omega, by dsimp only; omega, ?_⟩ (by dsimp only; omega) (by kernel_rfl)
        rw [next 1 (2, 1, 0) rfl rfl]
        unfold stepB band
        rw [h1]
        rfl
      | true =>
        conv => whnf
        refine ⟨_, _, both_c (m + 3) _ _ 1 0 _, rfl, ?_⟩
        conv => whnf
        refine ⟨_, _, hmay _ _ _, rfl, ?_⟩
        conv => whnf
        refine ⟨by kernel_rfl, ?_⟩
        conv => whnf
        cases h2 : mayX x _ (bif x.kind == 2 then 1 else 0) with
        | false =>
          conv => whnf
          refine ih (1 + 1, out) _ ⟨by dsimp only; omega, by dsimp only; omega, ?_⟩ (by dsimp only; omega) (by kernel_rfl)
          rw [next 1 (2, 1, 0) rfl rfl]
          unfold stepB band
          rw [h1, h2]
          rfl
        | true =>
          conv => whnf
          refine ih (1 + 1, bor .u32 out 2) _ ⟨by dsimp only; omega, by dsimp only; omega, ?_⟩ (by dsimp only; omega) (by kernel_rfl)
          rw [next 1 (2, 1, 0) rfl rfl]
          unfold stepB band
          rw [h1, h2]
          rfl
    · conv => whnf
      cases h1 : IntKind.wrap .u32 ((BitVec.ofInt IntKind.u32.bits asked &&& BitVec.ofInt IntKind.u32.bits 4).toNat : Int) != 0 with
      | false =>
        conv => whnf
        refine ⟨by kernel_rfl, ?_⟩
        conv => whnf
        refine ih (2 + 1, out) _ ⟨by dsimp only; omega, by dsimp only; omega, ?_⟩ (by dsimp only; omega) (by kernel_rfl)
        rw [next 2 (4, 3, 2) rfl rfl]
        unfold stepB band
        rw [h1]
        rfl
      | true =>
        conv => whnf
        refine ⟨_, _, both_c (m + 3) _ _ 3 2 _, rfl, ?_⟩
        conv => whnf
        refine ⟨_, _, hmay _ _ _, rfl, ?_⟩
        conv => whnf
        refine ⟨by kernel_rfl, ?_⟩
        conv => whnf
        cases h2 : mayX x _ (bif x.kind == 2 then 3 else 2) with
        | false =>
          conv => whnf
          refine ih (2 + 1, out) _ ⟨by dsimp only; omega, by dsimp only; omega, ?_⟩ (by dsimp only; omega) (by kernel_rfl)
          rw [next 2 (4, 3, 2) rfl rfl]
          unfold stepB band
          rw [h1, h2]
          rfl
        | true =>
          conv => whnf
          refine ih (2 + 1, bor .u32 out 4) _ ⟨by dsimp only; omega, by dsimp only; omega, ?_⟩ (by dsimp only; omega) (by kernel_rfl)
          rw [next 2 (4, 3, 2) rfl rfl]
          unfold stepB band
          rw [h1, h2]
          rfl
    · conv => whnf
      cases h1 : IntKind.wrap .u32 ((BitVec.ofInt IntKind.u32.bits asked &&& BitVec.ofInt IntKind.u32.bits 8).toNat : Int) != 0 with
      | false =>
        conv => whnf
        refine ⟨by kernel_rfl, ?_⟩
        conv => whnf
        refine ih (3 + 1, out) _ ⟨by dsimp only; omega, by dsimp only; omega, ?_⟩ (by dsimp only; omega) (by kernel_rfl)
        rw [next 3 (8, 3, 2) rfl rfl]
        unfold stepB band
        rw [h1]
        rfl
      | true =>
        conv => whnf
        refine ⟨_, _, both_c (m + 3) _ _ 3 2 _, rfl, ?_⟩
        conv => whnf
        refine ⟨_, _, hmay _ _ _, rfl, ?_⟩
        conv => whnf
        refine ⟨by kernel_rfl, ?_⟩
        conv => whnf
        cases h2 : mayX x _ (bif x.kind == 2 then 3 else 2) with
        | false =>
          conv => whnf
          refine ih (3 + 1, out) _ ⟨by dsimp only; omega, by dsimp only; omega, ?_⟩ (by dsimp only; omega) (by kernel_rfl)
          rw [next 3 (8, 3, 2) rfl rfl]
          unfold stepB band
          rw [h1, h2]
          rfl
        | true =>
          conv => whnf
          refine ih (3 + 1, bor .u32 out 8) _ ⟨by dsimp only; omega, by dsimp only; omega, ?_⟩ (by dsimp only; omega) (by kernel_rfl)
          rw [next 3 (8, 3, 2) rfl rfl]
          unfold stepB band
          rw [h1, h2]
          rfl
    · conv => whnf
      cases h1 : IntKind.wrap .u32 ((BitVec.ofInt IntKind.u32.bits asked &&& BitVec.ofInt IntKind.u32.bits 16).toNat : Int) != 0 with
      | false =>
        conv => whnf
        refine ⟨by kernel_rfl, ?_⟩
        conv => whnf
        refine ih (4 + 1, out) _ ⟨by dsimp only; omega, by dsimp only; omega, ?_⟩ (by dsimp only; omega) (by kernel_rfl)
        rw [next 4 (16, 3, 0) rfl rfl]
        unfold stepB band
        rw [h1]
        rfl
      | true =>
        conv => whnf
        refine ⟨_, _, both_c (m + 3) _ _ 3 0 _, rfl, ?_⟩
        conv => whnf
        refine ⟨_, _, hmay _ _ _, rfl, ?_⟩
        conv => whnf
        refine ⟨by kernel_rfl, ?_⟩
        conv => whnf
        cases h2 : mayX x _ (bif x.kind == 2 then 3 else 0) with
        | false =>
          conv => whnf
          refine ih (4 + 1, out) _ ⟨by dsimp only; omega, by dsimp only; omega, ?_⟩ (by dsimp only; omega) (by kernel_rfl)
          rw [next 4 (16, 3, 0) rfl rfl]
          unfold stepB band
          rw [h1, h2]
          rfl
        | true =>
          conv => whnf
          refine ih (4 + 1, bor .u32 out 16) _ ⟨by dsimp only; omega, by dsimp only; omega, ?_⟩ (by dsimp only; omega) (by kernel_rfl)
          rw [next 4 (16, 3, 0) rfl rfl]
          unfold stepB band
          rw [h1, h2]
          rfl
    · conv => whnf
      cases h1 : IntKind.wrap .u32 ((BitVec.ofInt IntKind.u32.bits asked &&& BitVec.ofInt IntKind.u32.bits 32).toNat : Int) != 0 with
      | false =>
        conv => whnf
        refine ⟨by kernel_rfl, ?_⟩
        conv => whnf
        refine ih (5 + 1, out) _ ⟨by dsimp only; omega, by dsimp only; omega, ?_⟩ (by dsimp only; omega) (by kernel_rfl)
        rw [next 5 (32, 0, 1) rfl rfl]
        unfold stepB band
        rw [h1]
        rfl
      | true =>
        conv => whnf
        refine ⟨_, _, both_c (m + 3) _ _ 0 1 _, rfl, ?_⟩
        conv => whnf
        refine ⟨_, _, hmay _ _ _, rfl, ?_⟩
        conv => whnf
        refine ⟨by kernel_rfl, ?_⟩
        conv => whnf
        cases h2 : mayX x _ (bif x.kind == 2 then 0 else 1) with
        | false =>
          conv => whnf
          refine ih (5 + 1, out) _ ⟨by dsimp only; omega, by dsimp only; omega, ?_⟩ (by dsimp only; omega) (by kernel_rfl)
          rw [next 5 (32, 0, 1) rfl rfl]
          unfold stepB band
          rw [h1, h2]
          rfl
        | true =>
          conv => whnf
          refine ih (5 + 1, bor .u32 out 32) _ ⟨by dsimp only; omega, by dsimp only; omega, ?_⟩ (by dsimp only; omega) (by kernel_rfl)
          rw [next 5 (32, 0, 1) rfl rfl]
          unfold stepB band
          rw [h1, h2]
          rfl
    · conv => whnf
      rw [hout]
      rfl
end Go.Proofs.Ytnkeijebkpjdgaa.Ab
/- Over the engine: what only looks: the arguments of a procedure, its result. -/
namespace Go.Proofs.Ytnkeijebkpjdgaa.Ab
open Go Go.RowKit

set_option maxRecDepth 100000
/-- The arguments of a procedure. -/
structure ArgsS where
  proc : Int
  h : AV
  hl : List Int
  name : List UInt8
  h2 : AV
  h2l : List Int
  name2 : List UInt8
  set : SetS
  hasG : Bool
  gs : Int
  gn : Int
  bits : Int
  offset : Int
  count : Int
  max : Int
  stable : Int
  data : AV
  datal : List Int
  target : List UInt8
  how : Int
  kind : Int
  verf : Nat → Int
  cookie : Int
structure ArgsS.ok (a : ArgsS) : Prop where
  h : rowOk .u8 a.h a.hl
  h2 : rowOk .u8 a.h2 a.h2l
  data : rowOk .u8 a.data a.datal
def argL (a : ArgsS) : List AV := [.int .u32 a.proc, a.h, .str a.name, a.h2, .str a.name2, .bool a.set.hm, .int .u32 a.set.mode, .bool a.set.hu, .int .u32 a.set.user, .bool a.set.hg, .int .u32 a.set.group, .bool a.set.hs, .int .u64 a.set.size, .int .u32 a.set.rh, .int .u32 a.set.rs, .int .u32 a.set.rn, .int .u32 a.set.wh, .int .u32 a.set.ws, .int .u32 a.set.wn,
  .bool a.hasG, .int .u32 a.gs, .int .u32 a.gn, .int .u32 a.bits, .int .u64 a.offset, .int .u32 a.count, .int .u32 a.max, .int .u32 a.stable, a.data, .str a.target, .int .u32 a.how, .int .u32 a.kind, .int .u8 (a.verf 0), .int .u8 (a.verf 1), .int .u8 (a.verf 2), .int .u8 (a.verf 3), .int .u8 (a.verf 4), .int .u8 (a.verf 5), .int .u8 (a.verf 6), .int .u8 (a.verf 7), .int .u64 a.cookie]
def worldL (ss sn : Int) (bo : Nat → Int) : List AV := [.int .u32 ss, .int .u32 sn, .int .u8 (bo 0), .int .u8 (bo 1), .int .u8 (bo 2), .int .u8 (bo 3), .int .u8 (bo 4), .int .u8 (bo 5), .int .u8 (bo 6), .int .u8 (bo 7)]
def weak0 : List AV := [.bool false, .int .u64 0, .int .u32 0, .int .u32 0, .int .u32 0, .int .u32 0, .bool false] ++ attrs0
def verf0 : List AV := [.int .u8 0, .int .u8 0, .int .u8 0, .int .u8 0, .int .u8 0, .int .u8 0, .int .u8 0, .int .u8 0]
def longs0 : List AV := [.int .u64 0, .int .u64 0, .int .u64 0]
/-- A result. -/
structure ResS where
  stat : Int
  ha : Bool := false
  at_ : List AV := attrs0
  hd : Bool := false
  dir : List AV := attrs0
  one : List AV := weak0
  hh : Bool := false
  h : AV := .sl0
  bits : Int := 0
  count : Int := 0
  en : Bool := false
  data : AV := .sl0
  target : List UInt8 := []
  verf : List AV := verf0
  space : List AV := longs0
  slots : List AV := longs0
def ansA (p : Int) (r : ResS) : List AV := [.int .u32 p, .int .u32 r.stat, .bool r.ha] ++ r.at_ ++ [.bool r.hd] ++ r.dir ++ r.one ++ weak0 ++ [.bool r.hh, r.h, .int .u32 r.bits, .int .u32 r.count, .bool r.en, r.data, .str r.target, .int .u32 0] ++ r.verf ++ [.sl0] ++ r.space ++ r.slots
theorem oneL_app : ∀ a b : List AV, oneL (a ++ b) = (oneL a && oneL b)
  | [], _ => rfl
  | v :: r, b => by
    show (oneA v && oneL (r ++ b)) = ((oneA v && oneL r) && oneL b)
    rw [oneL_app r b, Bool.and_assoc]
theorem rowOne {k : IntKind} {v : AV} {l : List Int} (h : rowOk k v l) : oneA v = true := by
  rcases h with ⟨rfl, _⟩ | ⟨t, rfl⟩ <;> rfl
theorem args_one {a : ArgsS} (ha : a.ok) : oneL (argL a) = true := by
  have h1 := rowOne ha.h
  have h2 := rowOne ha.h2
  have h3 := rowOne ha.data
  simp [argL, oneL, oneA] at *
  simp_all [oneA]
theorem args_top {a : ArgsS} (ha : a.ok) : topL (argL a) = 0 := by
  have h1 := clean_top _ (row_clean ha.h)
  have h2 := clean_top _ (row_clean ha.h2)
  have h3 := clean_top _ (row_clean ha.data)
  simp [argL, topL, AV.top, h1, h2, h3]
def doesS (p : Int) : Bool := p == 0 || (p == 1 || (p == 3 || (p == 4 || (p == 5 || (p == 6 || (p == 18 || (p == 19 || (p == 20 || p == 21))))))))
def procsM : List (AV × AV) := [(.int .u32 1, .fn 53 [] []), (.int .u32 3, .fn 54 [] []), (.int .u32 4, .fn 55 [] []), (.int .u32 5, .fn 56 [] []), (.int .u32 6, .fn 57 [] []),
  (.int .u32 18, .fn 58 [] []), (.int .u32 19, .fn 53 [] []), (.int .u32 20, .fn 53 [] []), (.int .u32 21, .fn 59 [] [])]
theorem find_miss {p : Int} : ∀ (l : List (Int × AV)) (i : Nat), (∀ e ∈ l, (p == e.1) = false) → findA (.int .u32 p) (l.map fun e => (.int .u32 e.1, e.2)) i = some none
  | [], _, _ => rfl
  | e :: r, i, h => by
    show (match sameCell (.int .u32 p) (.int .u32 e.1) with | some true => _ | some false => _ | none => _) = _
    simp only [sameCell, h e (List.mem_cons_self ..), if_true]
    exact find_miss r (i + 1) fun e he => h e (List.mem_cons_of_mem _ he)
theorem procs_none {p : Int} (h : doesS p = false) : findA (.int .u32 p) procsM 0 = some none := by
  unfold doesS at h
  simp only [Bool.or_eq_false_iff] at h
  refine find_miss (p := p) [(1, _), (3, _), (4, _), (5, _), (6, _), (18, _), (19, _), (20, _), (21, _)] 0 ?_
  intro e he
  simp only [List.mem_cons, List.not_mem_nil, or_false] at he
  rcases he with rfl | rfl | rfl | rfl | rfl | rfl | rfl | rfl | rfl <;> simp_all
theorem does_c (m : Nat) (from_ : FuncId) (h : H) (p : Int) : evCall TE (m + 2) from_ (.fn 32 [] []) [.int .u32 p] h = some (.ret (.bool (doesS p)), h) := by
  cases hd : doesS p with
  | true =>
    unfold doesS at hd
    simp only [Bool.or_eq_true, beq_iff_eq] at hd
    rcases hd with rfl | rfl | rfl | rfl | rfl | rfl | rfl | rfl | rfl | rfl <;> kernel_rfl
  | false =>
    have hf := procs_none hd
    have h0 : (p == 0) = false := by
      unfold doesS at hd
      simp only [Bool.or_eq_false_iff] at hd
      exact hd.1
    refine call_clean (fn := Try.f32) rfl Try.func32 rfl rfl rfl rfl rfl (Nat.le_of_ble_eq_true rfl) ?_
    conv => whnf
    ((with_reducible cases z0 : p == Int.ofNat 0) <;> try exact Bool.noConfusion (Eq.trans (Eq.symm z0) h0))
    conv => whnf
    (refine call_raw (fn := Try.f31) rfl Try.func31 rfl rfl (Nat.le_of_ble_eq_true rfl) ?_)
    conv => whnf
    (refine runK_ret (v := .fn0) (w := .none) (by show (match findA (.int .u32 p) procsM 0 with | some (some (_, v)) => _ | some none => _ | none => _) = _; rw [hf]; rfl) ?_)
    conv => whnf
    rfl
end Go.Proofs.Ytnkeijebkpjdgaa.Ab
/- Over the engine: what is asked of a tree, as an argument. -/
namespace Go.Proofs.Ytnkeijebkpjdgaa.Ab
open Go Go.RowKit

set_option maxRecDepth 100000
/-- A tree, somebody, what is asked, the world. -/
structure CallS where
  t : TreeS
  c : CredS
  a : ArgsS
  ss : Int
  sn : Int
  bo : Nat → Int
def callA (x : CallS) : AV := .agg ([x.t.v, .int .u32 x.t.gen, .int .u32 x.c.user, .int .u32 x.c.group, x.c.gs] ++ argL x.a ++ worldL x.ss x.sn x.bo)
structure CallS.ok (x : CallS) : Prop where
  t : x.t.ok
  c : x.c.ok
  a : x.a.ok
  name : x.a.name.length ≤ 140737488351232
  offset : 0 ≤ x.a.offset ∧ x.a.offset < 18446744073709551616
  count : 0 ≤ x.a.count ∧ x.a.count < 4294967296
  cookie : 0 ≤ x.a.cookie ∧ x.a.cookie < 18446744073709551616
def argTyL : List Ty := [.int .u32, .sl 1 (.int .u8), .str, .sl 1 (.int .u8), .str, .seq setTyL, .bool, .seq [.int .u32, .int .u32], .int .u32, .int .u64, .int .u32, .int .u32, .int .u32, .sl 1 (.int .u8), .str, .int .u32, .int .u32, .seq [.int .u8, .int .u8, .int .u8, .int .u8, .int .u8, .int .u8, .int .u8, .int .u8], .int .u64]
def callTyL (B : Nat) : List Ty := [.seq (treeTyL B), .seq credTyL, .seq argTyL, .seq worldTyL]
theorem sh_args {r : List AV} (h : ShL argTyL r) : ∃ a : ArgsS, r = argL a ∧ a.ok ∧ a.name.length ≤ 140737488351232 ∧ (0 ≤ a.offset ∧ a.offset < 18446744073709551616) ∧ (0 ≤ a.count ∧ a.count < 4294967296) ∧ (0 ≤ a.cookie ∧ a.cookie < 18446744073709551616) := by
  unfold argTyL at h
  rw [ShL] at h
  obtain ⟨r0, q0, rfl, a0, h⟩ := h
  rw [ShL] at h
  obtain ⟨r1, q1, rfl, a1, h⟩ := h
  rw [ShL] at h
  obtain ⟨r2, q2, rfl, a2, h⟩ := h
  rw [ShL] at h
  obtain ⟨r3, q3, rfl, a3, h⟩ := h
  rw [ShL] at h
  obtain ⟨r4, q4, rfl, a4, h⟩ := h
  rw [ShL] at h
  obtain ⟨r5, q5, rfl, a5, h⟩ := h
  rw [ShL] at h
  obtain ⟨r6, q6, rfl, a6, h⟩ := h
  rw [ShL] at h
  obtain ⟨r7, q7, rfl, a7, h⟩ := h
  rw [ShL] at h
  obtain ⟨r8, q8, rfl, a8, h⟩ := h
  rw [ShL] at h
  obtain ⟨r9, q9, rfl, a9, h⟩ := h
  rw [ShL] at h
  obtain ⟨r10, q10, rfl, a10, h⟩ := h
  rw [ShL] at h
  obtain ⟨r11, q11, rfl, a11, h⟩ := h
  rw [ShL] at h
  obtain ⟨r12, q12, rfl, a12, h⟩ := h
  rw [ShL] at h
  obtain ⟨r13, q13, rfl, a13, h⟩ := h
  rw [ShL] at h
  obtain ⟨r14, q14, rfl, a14, h⟩ := h
  rw [ShL] at h
  obtain ⟨r15, q15, rfl, a15, h⟩ := h
  rw [ShL] at h
  obtain ⟨r16, q16, rfl, a16, h⟩ := h
  rw [ShL] at h
  obtain ⟨r17, q17, rfl, a17, h⟩ := h
  rw [ShL] at h
  obtain ⟨r18, q18, rfl, a18, h⟩ := h
  rw [ShL] at h
  subst h
  simp only [Sh] at a0
  obtain ⟨x0, rfl, w0⟩ := a0
  obtain ⟨v1, hv1⟩ : ∃ v, r1 = [v] := by
    unfold Sh at a1
    rcases a1 with h | ⟨rows, t, h, _⟩ <;> exact ⟨_, h⟩
  subst hv1
  obtain ⟨l1, o1, _⟩ := sh_row a1
  simp only [Sh] at a2
  obtain ⟨x2, rfl, w2⟩ := a2
  obtain ⟨v3, hv3⟩ : ∃ v, r3 = [v] := by
    unfold Sh at a3
    rcases a3 with h | ⟨rows, t, h, _⟩ <;> exact ⟨_, h⟩
  subst hv3
  obtain ⟨l3, o3, _⟩ := sh_row a3
  simp only [Sh] at a4
  obtain ⟨x4, rfl, w4⟩ := a4
  simp only [Sh, ShL, setTyL] at a5
  obtain ⟨_, _, rfl, ⟨hm, rfl⟩, _, _, rfl, ⟨mo, rfl, _⟩, _, _, rfl, ⟨hu, rfl⟩, _, _, rfl, ⟨us, rfl, _⟩, _, _, rfl, ⟨hg, rfl⟩, _, _, rfl, ⟨gr, rfl, _⟩, _, _, rfl, ⟨hs, rfl⟩, _, _, rfl, ⟨sz, rfl, _⟩, _, _, rfl, ⟨rh, rfl, _⟩, _, _, rfl, ⟨_, _, rfl, ⟨rs, rfl, _⟩, _, _, rfl, ⟨rn, rfl, _⟩, rfl⟩, _, _, rfl, ⟨wh, rfl, _⟩, _, _, rfl, ⟨_, _, rfl, ⟨ws, rfl, _⟩, _, _, rfl, ⟨wn, rfl, _⟩, rfl⟩, rfl⟩ := a5
  simp only [Sh] at a6
  obtain ⟨x6, rfl⟩ := a6
  simp only [Sh, ShL] at a7
  obtain ⟨_, _, rfl, ⟨gs, rfl, _⟩, _, _, rfl, ⟨gn, rfl, _⟩, rfl⟩ := a7
  simp only [Sh] at a8
  obtain ⟨x8, rfl, w8⟩ := a8
  simp only [Sh] at a9
  obtain ⟨x9, rfl, w9⟩ := a9
  simp only [Sh] at a10
  obtain ⟨x10, rfl, w10⟩ := a10
  simp only [Sh] at a11
  obtain ⟨x11, rfl, w11⟩ := a11
  simp only [Sh] at a12
  obtain ⟨x12, rfl, w12⟩ := a12
  obtain ⟨v13, hv13⟩ : ∃ v, r13 = [v] := by
    unfold Sh at a13
    rcases a13 with h | ⟨rows, t, h, _⟩ <;> exact ⟨_, h⟩
  subst hv13
  obtain ⟨l13, o13, _⟩ := sh_row a13
  simp only [Sh] at a14
  obtain ⟨x14, rfl, w14⟩ := a14
  simp only [Sh] at a15
  obtain ⟨x15, rfl, w15⟩ := a15
  simp only [Sh] at a16
  obtain ⟨x16, rfl, w16⟩ := a16
  simp only [Sh, ShL] at a17
  obtain ⟨_, _, rfl, ⟨b0, rfl, _⟩, _, _, rfl, ⟨b1, rfl, _⟩, _, _, rfl, ⟨b2, rfl, _⟩, _, _, rfl, ⟨b3, rfl, _⟩, _, _, rfl, ⟨b4, rfl, _⟩, _, _, rfl, ⟨b5, rfl, _⟩, _, _, rfl, ⟨b6, rfl, _⟩, _, _, rfl, ⟨b7, rfl, _⟩, rfl⟩ := a17
  simp only [Sh] at a18
  obtain ⟨x18, rfl, w18⟩ := a18
  exact ⟨{ proc := x0, h := v1, hl := l1, name := x2, h2 := v3, h2l := l3, name2 := x4, set := ⟨hm, mo, hu, us, hg, gr, hs, sz, rh, rs, rn, wh, ws, wn⟩, hasG := x6, gs := gs, gn := gn, bits := x8, offset := x9, count := x10, max := x11, stable := x12, data := v13, datal := l13, target := x14, how := x15, kind := x16, verf := fun i => match i with | 0 => b0 | 1 => b1 | 2 => b2 | 3 => b3 | 4 => b4 | 5 => b5 | 6 => b6 | _ => b7, cookie := x18 }, rfl, ⟨o1, o3, o13⟩, w2, wf_u64 w9, wf_u32 w10, wf_u64 w18⟩
theorem sh_call17 {B : Nat} (hB : 0 < B) {r : List AV} (h : ShL (callTyL B) r) : ∃ x : CallS, .agg r = callA x ∧ x.ok := by
  unfold callTyL at h
  rw [ShL] at h
  obtain ⟨_, _, rfl, a0, h⟩ := h
  rw [ShL] at h
  obtain ⟨_, _, rfl, a1, h⟩ := h
  rw [ShL] at h
  obtain ⟨_, _, rfl, a2, h⟩ := h
  rw [ShL] at h
  obtain ⟨_, _, rfl, a3, h⟩ := h
  rw [ShL] at h
  subst h
  unfold Sh at a0 a1 a2
  obtain ⟨t, rfl, ht⟩ := sh_tree hB a0
  obtain ⟨c, rfl, hc, _⟩ := sh_cred a1
  obtain ⟨a, rfl, ha, h1, h2, h3, h4⟩ := sh_args a2
  simp only [Sh, ShL, worldTyL] at a3
  obtain ⟨_, _, rfl, ⟨_, _, rfl, ⟨ss, rfl, _⟩, _, _, rfl, ⟨sn, rfl, _⟩, rfl⟩, _, _, rfl, ⟨_, _, rfl, ⟨v0, rfl, _⟩, _, _, rfl, ⟨v1, rfl, _⟩, _, _, rfl, ⟨v2, rfl, _⟩, _, _, rfl, ⟨v3, rfl, _⟩, _, _, rfl, ⟨v4, rfl, _⟩, _, _, rfl, ⟨v5, rfl, _⟩, _, _, rfl, ⟨v6, rfl, _⟩, _, _, rfl, ⟨v7, rfl, _⟩, rfl⟩, rfl⟩ := a3
  exact ⟨⟨t, c, a, ss, sn, fun i => match i with | 0 => v0 | 1 => v1 | 2 => v2 | 3 => v3 | 4 => v4 | 5 => v5 | 6 => v6 | _ => v7⟩, rfl, ⟨ht, hc, ha, h1, h2, h3, h4⟩⟩
end Go.Proofs.Ytnkeijebkpjdgaa.Ab
/- Over the engine: how great what is asked is. -/
namespace Go.Proofs.Ytnkeijebkpjdgaa.Ab
open Go Go.RowKit

set_option maxRecDepth 100000
set_option maxHeartbeats 8000000 in
theorem argsSize_c (m : Nat) (a : ArgsS) (ha : a.ok) : ∃ r : Int, ∀ (f : FuncId) (h : H), evCall TE (m + 3) f (.fn 19 [] []) [.agg (argL a)] h = some (.ret (.int .i64 r), h) := by
  have c1 : ∀ (f : FuncId) (h : H), (evAll TE (m + 2)).1 f (.fn 41 [] []) [a.h] h = some (.ret (.int .i64 a.hl.length), h) := fun f h => bytesSize_c (m + 1) f h _ _ ha.h
  have c2 : ∀ (f : FuncId) (h : H), (evAll TE (m + 2)).1 f (.fn 41 [] []) [a.h2] h = some (.ret (.int .i64 a.h2l.length), h) := fun f h => bytesSize_c (m + 1) f h _ _ ha.h2
  have c3 : ∀ (f : FuncId) (h : H), (evAll TE (m + 2)).1 f (.fn 41 [] []) [a.data] h = some (.ret (.int .i64 a.datal.length), h) := fun f h => bytesSize_c (m + 1) f h _ _ ha.data
  have hcl : cleanL [.agg (argL a)] = true := by
    have h2 := row_clean ha.h
    have h3 := row_clean ha.h2
    have h4 := row_clean ha.data
    simp [cleanL, AV.clean, argL, h2, h3, h4]
  have o1 := rowOne ha.h
  have o2 := rowOne ha.h2
  have o3 := rowOne ha.data
  have t1 := clean_top _ (row_clean ha.h)
  have t2 := clean_top _ (row_clean ha.h2)
  have t3 := clean_top _ (row_clean ha.data)
  have hone := args_one ha
  have htop := args_top ha
  have q1 := ha.h
  have q2 := ha.h2
  have q3 := ha.data
  obtain ⟨proc, ah, ahl, name, h2, h2l, name2, set, hasG, gs, gn, bits, offset, count, max, stable, data, datal, target, how, kind, verf, cookie⟩ := a
  obtain ⟨hm, mode, hu, user, hgg, group, hs, size, rh, rs, rn, wh, ws, wn⟩ := set
  unfold argL at *
  dsimp only at *
  clear ha
  generalize (ahl.length : Int) = n1 at c1
  generalize (h2l.length : Int) = n2 at c2
  generalize (datal.length : Int) = n3 at c3
  cases b1 : decide (IntKind.wrap .i64 (IntKind.wrap .i64 (IntKind.wrap .i64 (1 + (name.length : Int)) + (name2.length : Int)) + (target.length : Int)) ≤ (1048576 : Int)) with
  | true =>
    cases b2 : decide (IntKind.wrap .i64 (IntKind.wrap .i64 (IntKind.wrap .i64 (IntKind.wrap .i64 (1 + (name.length : Int)) + (name2.length : Int)) + (target.length : Int)) + n1) ≤ (1048576 : Int)) with
    | true =>
      cases b3 : decide (IntKind.wrap .i64 (IntKind.wrap .i64 (IntKind.wrap .i64 (IntKind.wrap .i64 (IntKind.wrap .i64 (1 + (name.length : Int)) + (name2.length : Int)) + (target.length : Int)) + n1) + n2) ≤ (1048576 : Int)) with
      | true =>
        refine ⟨IntKind.wrap .i64 (IntKind.wrap .i64 (IntKind.wrap .i64 (IntKind.wrap .i64 (IntKind.wrap .i64 (IntKind.wrap .i64 (1 + (name.length : Int)) + (name2.length : Int)) + (target.length : Int)) + n1) + n2) + n3), fun from_ h => ?_⟩
        rcases q1 with ⟨rfl, rfl⟩ | ⟨u1, rfl⟩ <;> rcases q2 with ⟨rfl, rfl⟩ | ⟨u2, rfl⟩ <;> rcases q3 with ⟨rfl, rfl⟩ | ⟨u3, rfl⟩
        all_goals refine call_clean (fn := Try.f19) rfl Try.func19 rfl rfl hcl rfl rfl (Nat.le_of_ble_eq_true rfl) ?_
        all_goals
          conv => whnf
          ((with_reducible cases z0 : decide (IntKind.i64.wrap (IntKind.i64.wrap (IntKind.i64.wrap (Int.ofNat 1 + (↑name.length : Int)) + (↑name2.length : Int)) + (↑target.length : Int)) ≤ Int.ofNat 1048576)) <;> try exact Bool.noConfusion (Eq.trans (Eq.symm z0) b1))
          conv => whnf
          with_reducible refine ⟨_, _, c1 _ _, ?_⟩
          conv => whnf
          ((with_reducible cases z1 : decide (IntKind.i64.wrap (IntKind.i64.wrap (IntKind.i64.wrap (IntKind.i64.wrap (Int.ofNat 1 + (↑name.length : Int)) + (↑name2.length : Int)) + (↑target.length : Int)) + n1) ≤ Int.ofNat 1048576)) <;> try exact Bool.noConfusion (Eq.trans (Eq.symm z1) b2))
          conv => whnf
          with_reducible refine ⟨_, _, c2 _ _, ?_⟩
          conv => whnf
          ((with_reducible cases z2 : decide (IntKind.i64.wrap (IntKind.i64.wrap (IntKind.i64.wrap (IntKind.i64.wrap (IntKind.i64.wrap (Int.ofNat 1 + (↑name.length : Int)) + (↑name2.length : Int)) + (↑target.length : Int)) + n1) + n2) ≤ Int.ofNat 1048576)) <;> try exact Bool.noConfusion (Eq.trans (Eq.symm z2) b3))
          conv => whnf
          with_reducible refine ⟨_, _, c3 _ _, ?_⟩
          conv => whnf
      | false =>
        refine ⟨IntKind.wrap .i64 (IntKind.wrap .i64 (IntKind.wrap .i64 (IntKind.wrap .i64 (IntKind.wrap .i64 (1 + (name.length : Int)) + (name2.length : Int)) + (target.length : Int)) + n1) + n2), fun from_ h => ?_⟩
        rcases q1 with ⟨rfl, rfl⟩ | ⟨u1, rfl⟩ <;> rcases q2 with ⟨rfl, rfl⟩ | ⟨u2, rfl⟩ <;> rcases q3 with ⟨rfl, rfl⟩ | ⟨u3, rfl⟩
        all_goals refine call_clean (fn := Try.f19) rfl Try.func19 rfl rfl hcl rfl rfl (Nat.le_of_ble_eq_true rfl) ?_
        all_goals
          conv => whnf
          ((with_reducible cases z0 : decide (IntKind.i64.wrap (IntKind.i64.wrap (IntKind.i64.wrap (Int.ofNat 1 + (↑name.length : Int)) + (↑name2.length : Int)) + (↑target.length : Int)) ≤ Int.ofNat 1048576)) <;> try exact Bool.noConfusion (Eq.trans (Eq.symm z0) b1))
          conv => whnf
          with_reducible refine ⟨_, _, c1 _ _, ?_⟩
          conv => whnf
          ((with_reducible cases z1 : decide (IntKind.i64.wrap (IntKind.i64.wrap (IntKind.i64.wrap (IntKind.i64.wrap (Int.ofNat 1 + (↑name.length : Int)) + (↑name2.length : Int)) + (↑target.length : Int)) + n1) ≤ Int.ofNat 1048576)) <;> try exact Bool.noConfusion (Eq.trans (Eq.symm z1) b2))
          conv => whnf
          with_reducible refine ⟨_, _, c2 _ _, ?_⟩
          conv => whnf
          ((with_reducible cases z2 : decide (IntKind.i64.wrap (IntKind.i64.wrap (IntKind.i64.wrap (IntKind.i64.wrap (IntKind.i64.wrap (Int.ofNat 1 + (↑name.length : Int)) + (↑name2.length : Int)) + (↑target.length : Int)) + n1) + n2) ≤ Int.ofNat 1048576)) <;> try exact Bool.noConfusion (Eq.trans (Eq.symm z2) b3))
          conv => whnf
    | false =>
      refine ⟨IntKind.wrap .i64 (IntKind.wrap .i64 (IntKind.wrap .i64 (IntKind.wrap .i64 (1 + (name.length : Int)) + (name2.length : Int)) + (target.length : Int)) + n1), fun from_ h => ?_⟩
      rcases q1 with ⟨rfl, rfl⟩ | ⟨u1, rfl⟩ <;> rcases q2 with ⟨rfl, rfl⟩ | ⟨u2, rfl⟩ <;> rcases q3 with ⟨rfl, rfl⟩ | ⟨u3, rfl⟩
      all_goals refine call_clean (fn := Try.f19) rfl Try.func19 rfl rfl hcl rfl rfl (Nat.le_of_ble_eq_true rfl) ?_
      all_goals
        conv => whnf
        ((with_reducible cases z0 : decide (IntKind.i64.wrap (IntKind.i64.wrap (IntKind.i64.wrap (Int.ofNat 1 + (↑name.length : Int)) + (↑name2.length : Int)) + (↑target.length : Int)) ≤ Int.ofNat 1048576)) <;> try exact Bool.noConfusion (Eq.trans (Eq.symm z0) b1))
        conv => whnf
        with_reducible refine ⟨_, _, c1 _ _, ?_⟩
        conv => whnf
        ((with_reducible cases z1 : decide (IntKind.i64.wrap (IntKind.i64.wrap (IntKind.i64.wrap (IntKind.i64.wrap (Int.ofNat 1 + (↑name.length : Int)) + (↑name2.length : Int)) + (↑target.length : Int)) + n1) ≤ Int.ofNat 1048576)) <;> try exact Bool.noConfusion (Eq.trans (Eq.symm z1) b2))
        conv => whnf
        ((with_reducible cases z2 : decide (IntKind.i64.wrap (IntKind.i64.wrap (IntKind.i64.wrap (IntKind.i64.wrap (Int.ofNat 1 + (↑name.length : Int)) + (↑name2.length : Int)) + (↑target.length : Int)) + n1) ≤ Int.ofNat 1048576)) <;> try exact Bool.noConfusion (Eq.trans (Eq.symm z2) b2))
        conv => whnf
  | false =>
    refine ⟨IntKind.wrap .i64 (IntKind.wrap .i64 (IntKind.wrap .i64 (1 + (name.length : Int)) + (name2.length : Int)) + (target.length : Int)), fun from_ h => ?_⟩
    rcases q1 with ⟨rfl, rfl⟩ | ⟨u1, rfl⟩ <;> rcases q2 with ⟨rfl, rfl⟩ | ⟨u2, rfl⟩ <;> rcases q3 with ⟨rfl, rfl⟩ | ⟨u3, rfl⟩
    all_goals refine call_clean (fn := Try.f19) rfl Try.func19 rfl rfl hcl rfl rfl (Nat.le_of_ble_eq_true rfl) ?_
    all_goals
      conv => whnf
      ((with_reducible cases z0 : decide (IntKind.i64.wrap (IntKind.i64.wrap (IntKind.i64.wrap (Int.ofNat 1 + (↑name.length : Int)) + (↑name2.length : Int)) + (↑target.length : Int)) ≤ Int.ofNat 1048576)) <;> try exact Bool.noConfusion (Eq.trans (Eq.symm z0) b1))
      conv => whnf
      ((with_reducible cases z1 : decide (IntKind.i64.wrap (IntKind.i64.wrap (IntKind.i64.wrap (Int.ofNat 1 + (↑name.length : Int)) + (↑name2.length : Int)) + (↑target.length : Int)) ≤ Int.ofNat 1048576)) <;> try exact Bool.noConfusion (Eq.trans (Eq.symm z1) b1))
      conv => whnf
      ((with_reducible cases z2 : decide (IntKind.i64.wrap (IntKind.i64.wrap (IntKind.i64.wrap (Int.ofNat 1 + (↑name.length : Int)) + (↑name2.length : Int)) + (↑target.length : Int)) ≤ Int.ofNat 1048576)) <;> try exact Bool.noConfusion (Eq.trans (Eq.symm z2) b1))
      conv => whnf
end Go.Proofs.Ytnkeijebkpjdgaa.Ab
