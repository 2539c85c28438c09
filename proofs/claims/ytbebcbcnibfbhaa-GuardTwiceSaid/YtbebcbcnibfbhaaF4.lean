import Derived.Test.YtbebcbcnibfbhaaF3
/- Over the engine, fourth text: access.May, access.Owns, access.Bits. -/
namespace Go.Proofs.Ytbebcbcnibfbhaa.Ab
open Go Go.RowKit

def band (k : IntKind) (a b : Int) : Int := IntKind.wrap k ((BitVec.ofInt k.bits a &&& BitVec.ofInt k.bits b).toNat : Int)
def bor (k : IntKind) (a b : Int) : Int := IntKind.wrap k ((BitVec.ofInt k.bits a ||| BitVec.ofInt k.bits b).toNat : Int)
def shr (a s : Int) : Int := a.fdiv (2 ^ (min s.toNat 32))
def mayX (x : NodeS) (c : CredS) (what : Int) : Bool :=
  !decide (what < 1) && (!decide (what > 7) && bif c.user == 0 then band .u32 what 1 == 0 || (x.kind != 1 || band .u32 x.mode 73 != 0)
    else bif c.user == x.user then band .u32 (shr x.mode 6) what == what else bif inS c x.group then band .u32 (shr x.mode 3) what == what else band .u32 (shr x.mode 0) what == what)
set_option maxRecDepth 100000
theorem may_none (m : Nat) (from_ : FuncId) (h : H) (v : AV) (ns : List NodeS) (hv : nodesOk v ns) (gen n : Int) (c : CredS) (what : Int) (hc : c.ok) (hn : thereS ns n = false) : evCall TE (m + 3) from_ (.fn 101 [] []) [.agg [v, .int .u32 gen], .int .i64 n, credA c, .int .u32 what] h = some (.ret (.bool false), h) := by
  have hat := fun (f : FuncId) (h : H) => attrs_none m f h v ns hv gen n hn
  obtain ⟨u, gr, gs, l⟩ := c
  obtain ⟨h1, h2⟩ := hc
  dsimp only at h1 h2
  rcases h1 with ⟨rfl, rfl⟩ | ⟨tt, rfl⟩ <;> rcases hv with ⟨rfl, rfl⟩ | ⟨t, rfl⟩
  all_goals refine call_clean (fn := Try.f101) rfl Try.func101 rfl rfl rfl rfl rfl (Nat.le_of_ble_eq_true rfl) ?_
  all_goals conv => whnf
  all_goals refine ⟨_, _, hat _ _, ?_⟩
  all_goals conv => whnf
set_option maxHeartbeats 8000000 in
theorem may_some (m : Nat) (from_ : FuncId) (h : H) (v : AV) (ns : List NodeS) (hv : nodesOk v ns) (gen n : Int) (c : CredS) (what : Int) (hc : c.ok) (x : NodeS) (hn : thereS ns n = true) (hx : ns[n.toNat]? = some x) (hok : x.ok) :
    evCall TE (m + 4) from_ (.fn 101 [] []) [.agg [v, .int .u32 gen], .int .i64 n, credA c, .int .u32 what] h = some (.ret (.bool (mayX x c what)), h) := by
  have hat := fun (f : FuncId) (h : H) => attrs_some (m + 1) f h v ns hv gen n x hn hx hok
  have hin := fun (f : FuncId) (h : H) => in_c m f h c x.group hc
  obtain ⟨u, gr, gs, l⟩ := c
  obtain ⟨h1, h2⟩ := hc
  dsimp only at h1 h2
  rcases hv with ⟨rfl, rfl⟩ | ⟨t, rfl⟩
  · simp at hx
  unfold mayX band shr
  dsimp only
  rcases h1 with ⟨rfl, rfl⟩ | ⟨tt, rfl⟩
  · refine call_clean (fn := Try.f101) rfl Try.func101 rfl rfl rfl rfl rfl (Nat.le_of_ble_eq_true rfl) ?_
    conv => whnf
    refine ⟨_, _, hat _ _, ?_⟩
    conv => whnf
    cases h1 : decide (what < 1) with
    | true =>
      conv => whnf
      rfl
    | false =>
      conv => whnf
      cases h2 : decide (what > 7) with
      | true =>
        conv => whnf
        rfl
      | false =>
        conv => whnf
        cases h3 : u == 0 with
        | true =>
          conv => whnf
          cases h4 : IntKind.wrap .u32 ((BitVec.ofInt IntKind.u32.bits what &&& BitVec.ofInt IntKind.u32.bits 1).toNat : Int) == 0 with
          | true =>
            conv => whnf
            rfl
          | false =>
            conv => whnf
            cases h5 : x.kind != 1 with
            | true =>
              conv => whnf
              rfl
            | false =>
              conv => whnf
              rfl
        | false =>
          conv => whnf
          cases h4 : u == x.user with
          | true =>
            conv => whnf
            rfl
          | false =>
            conv => whnf
            refine ⟨_, _, hin _ _, ?_⟩
            cases h5 : inS _ x.group with
            | true =>
              conv => whnf
              rfl
            | false =>
              conv => whnf
              rfl
  · refine call_clean (fn := Try.f101) rfl Try.func101 rfl rfl rfl rfl rfl (Nat.le_of_ble_eq_true rfl) ?_
    conv => whnf
    refine ⟨_, _, hat _ _, ?_⟩
    conv => whnf
    cases h1 : decide (what < 1) with
    | true =>
      conv => whnf
      rfl
    | false =>
      conv => whnf
      cases h2 : decide (what > 7) with
      | true =>
        conv => whnf
        rfl
      | false =>
        conv => whnf
        cases h3 : u == 0 with
        | true =>
          conv => whnf
          cases h4 : IntKind.wrap .u32 ((BitVec.ofInt IntKind.u32.bits what &&& BitVec.ofInt IntKind.u32.bits 1).toNat : Int) == 0 with
          | true =>
            conv => whnf
            rfl
          | false =>
            conv => whnf
            cases h5 : x.kind != 1 with
            | true =>
              conv => whnf
              rfl
            | false =>
              conv => whnf
              rfl
        | false =>
          conv => whnf
          cases h4 : u == x.user with
          | true =>
            conv => whnf
            rfl
          | false =>
            conv => whnf
            refine ⟨_, _, hin _ _, ?_⟩
            cases h5 : inS _ x.group with
            | true =>
              conv => whnf
              rfl
            | false =>
              conv => whnf
              rfl
end Go.Proofs.Ytbebcbcnibfbhaa.Ab
