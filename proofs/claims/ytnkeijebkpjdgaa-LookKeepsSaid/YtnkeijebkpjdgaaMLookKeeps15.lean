import Derived.Test.YtnkeijebkpjdgaaMLookKeeps14
import Derived.Laws.BitsLemmas
import Derived.Laws.Bits64
set_option linter.unusedVariables false
set_option linter.unusedSimpArgs false
/- Over the engine, third text: creds.In. -/
namespace Go.Proofs.Ytnkeijebkpjdgaa.Ab
open Go Go.RowKit

theorem wrap64 {i : Int} (h0 : -9223372036854775808 ≤ i) (h1 : i ≤ 9223372036854775807) : IntKind.wrap .i64 i = i := by
  rw [IntKind.wrap_i64]; omega
theorem wf_u32 {x : Int} (h : (Lit.int .u32 x).wf = true) : 0 ≤ x ∧ x < 4294967296 := by
  simp only [Lit.wf, Bool.and_eq_true, decide_eq_true_eq] at h
  rw [show IntKind.u32.min = 0 from rfl, show IntKind.u32.max = 4294967295 from rfl] at h
  omega
set_option maxRecDepth 100000
def idxS (l : List Int) (t : Bool) (g : Int) (i : Int) : ST :=
  ⟨RG.of 19 [(8, .int .i64 i), (7, .int .i64 l.length), (1, .int .u32 g), (0, .sl (numsA .u32 l) l.length t)], ⟨[], []⟩⟩
theorem index_c (m : Nat) (l : List Int) (t : Bool) (g : Int) (hl : l.length ≤ 4611686018427387900) : ∃ v, (∃ r : Int, v = .int .i64 r ∧ (0 ≤ r ↔ g ∈ l)) ∧ ∀ (from_ : FuncId) (h : H), evCall TE (m + 1) from_ (.fn 77 [] []) [.sl (numsA .u32 l) l.length t, .int .u32 g] h = some (.ret v, h) := by
  refine call_cleanP (fn := Try.f77) rfl Try.func77 rfl (fun _ => rfl) rfl rfl (Nat.le_of_ble_eq_true rfl) ?_
  conv => whnf
  refine ⟨l.length + 1, ?_, ?_⟩
  · show l.length + 1 ≤ 4611686018427387904
    omega
  · refine rounds_ind (idxS l t g) (fun i => 0 ≤ i ∧ i ≤ l.length ∧ g ∉ l.take i.toNat) (fun i => (l.length - i).toNat) ?_ _ 0 _ ⟨by omega, by omega, by simp⟩ (by omega) ?_
    · intro i m' hI ih
      conv => whnf
      cases h1 : decide (i < (l.length : Int)) with
      | false =>
        conv => whnf
        have h1 := of_decide_eq_false h1
        refine ⟨rfl, -1, rfl, ⟨by omega, fun hg => absurd ?_ hI.2.2⟩⟩
        rwa [List.take_of_length_le (by omega)]
      | true =>
        have h1 := of_decide_eq_true h1
        obtain ⟨x, hx⟩ : ∃ x, l[i.toNat]? = some x := ⟨_, List.getElem?_eq_getElem (by omega)⟩
        have hc : (numsA .u32 l)[i.toNat * 1]? = some (.int .u32 x) := by rw [Nat.mul_one, numsA, List.getElem?_map, hx]; rfl
        conv => whnf
        refine runK_ret (ev_indexSl (sz := 1) rfl rfl rfl rfl (by omega) h1) ?_
        conv => whnf
        refine runK_ret (ev_loadV (z := 1) rfl rfl rfl hc) ?_
        conv => whnf
        cases h2 : g == x with
        | true =>
          conv => whnf
          have h2 : g = x := by simpa using h2
          exact ⟨rfl, i, rfl, ⟨fun _ => h2 ▸ List.mem_of_getElem? hx, fun _ => hI.1⟩⟩
        | false =>
          conv => whnf
          have h2 : g ≠ x := by simpa using h2
          have hw : IntKind.wrap .i64 (i + 1) = i + 1 := wrap64 (by omega) (by omega)
          refine ih (IntKind.wrap .i64 (i + 1)) _ ?_ ?_ (by kernel_rfl)
          · rw [hw]
            refine ⟨by omega, by omega, ?_⟩
            rw [show (i + 1).toNat = i.toNat + 1 by omega, List.take_add_one, hx]
            simp [hI.2.2, h2]
          · rw [hw]; omega
    · kernel_rfl
theorem index_nil (m : Nat) (from_ : FuncId) (h : H) (g : Int) : evCall TE (m + 1) from_ (.fn 77 [] []) [.sl0, .int .u32 g] h = some (.ret (.int .i64 (-1)), h) := by
  refine call_clean (fn := Try.f77) rfl Try.func77 rfl rfl rfl rfl rfl (Nat.le_of_ble_eq_true rfl) ?_
  conv => whnf
  refine ⟨3, Nat.le_of_ble_eq_true rfl, ?_⟩
  conv => whnf
theorem contains_c (m : Nat) (from_ : FuncId) (h : H) (v : AV) (l : List Int) (g : Int) (hv : rowOk .u32 v l) (hl : l.length ≤ 4611686018427387900) : evCall TE (m + 2) from_ (.fn 62 [] []) [v, .int .u32 g] h = some (.ret (.bool (decide (g ∈ l))), h) := by
  rcases hv with ⟨rfl, rfl⟩ | ⟨t, rfl⟩
  · refine call_clean (fn := Try.f62) rfl Try.func62 rfl rfl rfl rfl rfl (Nat.le_of_ble_eq_true rfl) ?_
    conv => whnf
    refine ⟨_, _, index_nil m _ _ g, ?_⟩
    conv => whnf
    simp
  · refine call_clean (fn := Try.f62) rfl Try.func62 rfl rfl rfl rfl rfl (Nat.le_of_ble_eq_true rfl) ?_
    conv => whnf
    obtain ⟨_, ⟨r, rfl, hr⟩, hc⟩ := index_c m l t g hl
    refine ⟨_, _, hc _ _, ?_⟩
    conv => whnf
    congr 1
    exact decide_eq_decide.2 hr
/-- Who calls. -/
structure CredS where
  user : Int
  group : Int
  gs : AV
  l : List Int
def CredS.ok (c : CredS) : Prop := rowOk .u32 c.gs c.l ∧ c.l.length ≤ 4611686018427387900
def credA (c : CredS) : AV := .agg [.int .u32 c.user, .int .u32 c.group, c.gs]
def inS (c : CredS) (g : Int) : Bool := c.group == g || decide (g ∈ c.l)
set_option maxHeartbeats 1000000 in
theorem in_c (m : Nat) (from_ : FuncId) (h : H) (c : CredS) (g : Int) (hc : c.ok) : evCall TE (m + 3) from_ (.fn 38 [] []) [credA c, .int .u32 g] h = some (.ret (.bool (inS c g)), h) := by
  obtain ⟨u, gr, gs, l⟩ := c
  obtain ⟨h1, h2⟩ := hc
  unfold inS
  dsimp only at h1 h2 ⊢
  have key := fun (f : FuncId) (h : H) => contains_c (m := m) f h gs l g h1 h2
  rcases h1 with ⟨rfl, rfl⟩ | ⟨t, rfl⟩
  all_goals refine call_clean (fn := Try.f38) rfl Try.func38 rfl rfl rfl rfl rfl (Nat.le_of_ble_eq_true rfl) ?_
  all_goals conv => whnf
  all_goals cases h3 : gr == g
  all_goals conv => whnf
  all_goals first | rfl | refine ⟨_, _, key _ _, ?_⟩
  all_goals conv => whnf
  all_goals rfl
end Go.Proofs.Ytnkeijebkpjdgaa.Ab
/- Over the engine, fourth text: access.May, access.Owns, access.Bits. -/
namespace Go.Proofs.Ytnkeijebkpjdgaa.Ab
open Go Go.RowKit

def band (k : IntKind) (a b : Int) : Int := IntKind.wrap k ((BitVec.ofInt k.bits a &&& BitVec.ofInt k.bits b).toNat : Int)
def bor (k : IntKind) (a b : Int) : Int := IntKind.wrap k ((BitVec.ofInt k.bits a ||| BitVec.ofInt k.bits b).toNat : Int)
def shr (a s : Int) : Int := a.fdiv (2 ^ (min s.toNat 32))
def mayX (x : NodeS) (c : CredS) (what : Int) : Bool :=
  !decide (what < 1) && (!decide (what > 7) && bif c.user == 0 then band .u32 what 1 == 0 || (x.kind != 1 || band .u32 x.mode 73 != 0)
    else bif c.user == x.user then band .u32 (shr x.mode 6) what == what else bif inS c x.group then band .u32 (shr x.mode 3) what == what else band .u32 (shr x.mode 0) what == what)
set_option maxRecDepth 100000
set_option maxHeartbeats 8000000 in
theorem may_some (m : Nat) (from_ : FuncId) (h : H) (v : AV) (ns : List NodeS) (hv : nodesOk v ns) (gen n : Int) (c : CredS) (what : Int) (hc : c.ok) (x : NodeS) (hn : thereS ns n = true) (hx : ns[n.toNat]? = some x) (hok : x.ok) :
    evCall TE (m + 4) from_ (.fn 15 [] []) [.agg [v, .int .u32 gen], .int .i64 n, credA c, .int .u32 what] h = some (.ret (.bool (mayX x c what)), h) := by
  have hat := fun (f : FuncId) (h : H) => attrs_some (m + 1) f h v ns hv gen n x hn hx hok
  have hin := fun (f : FuncId) (h : H) => in_c m f h c x.group hc
  obtain ⟨u, gr, gs, l⟩ := c
  obtain ⟨h1, h2⟩ := hc
  dsimp only at h1 h2
  rcases hv with ⟨rfl, rfl⟩ | ⟨t, rfl⟩
  · simp at hx
  unfold mayX band shr
  dsimp only
  rcases h1 with ⟨rfl, rfl⟩ | ⟨tt, rfl⟩
  · refine call_clean (fn := Try.f15) rfl Try.func15 rfl rfl rfl rfl rfl (Nat.le_of_ble_eq_true rfl) ?_
    conv => whnf
    refine ⟨_, _, hat _ _, ?_⟩
    conv => whnf
    cases h1 : decide (what < 1) with
    | true =>
      conv => whnf
      rfl
    | false =>
      conv => whnf
      cases h2 : decide (what > 7) with
      | true =>
        conv => whnf
        rfl
      | false =>
        conv => whnf
        cases h3 : u == 0 with
        | true =>
          conv => whnf
          cases h4 : IntKind.wrap .u32 ((BitVec.ofInt IntKind.u32.bits what &&& BitVec.ofInt IntKind.u32.bits 1).toNat : Int) == 0 with
          | true =>
            conv => whnf
            rfl
          | false =>
            conv => whnf
            cases h5 : x.kind != 1 with
            | true =>
              conv => whnf
              rfl
            | false =>
              conv => whnf
              rfl
        | false =>
          conv => whnf
          cases h4 : u == x.user with
          | true =>
            conv => whnf
            rfl
          | false =>
            conv => whnf
            refine ⟨_, _, hin _ _, ?_⟩
            cases h5 : inS _ x.group with
            | true =>
              conv => whnf
              rfl
            | false =>
              conv => whnf
              rfl
  · refine call_clean (fn := Try.f15) rfl Try.func15 rfl rfl rfl rfl rfl (Nat.le_of_ble_eq_true rfl) ?_
    conv => whnf
    refine ⟨_, _, hat _ _, ?_⟩
    conv => whnf
    cases h1 : decide (what < 1) with
    | true =>
      conv => whnf
      rfl
    | false =>
      conv => whnf
      cases h2 : decide (what > 7) with
      | true =>
        conv => whnf
        rfl
      | false =>
        conv => whnf
        cases h3 : u == 0 with
        | true =>
          conv => whnf
          cases h4 : IntKind.wrap .u32 ((BitVec.ofInt IntKind.u32.bits what &&& BitVec.ofInt IntKind.u32.bits 1).toNat : Int) == 0 with
          | true =>
            conv => whnf
            rfl
          | false =>
            conv => whnf
            cases h5 : x.kind != 1 with
            | true =>
              conv => whnf
              rfl
            | false =>
              conv => whnf
              rfl
        | false =>
          conv => whnf
          cases h4 : u == x.user with
          | true =>
            conv => whnf
            rfl
          | false =>
            conv => whnf
            refine ⟨_, _, hin _ _, ?_⟩
            cases h5 : inS _ x.group with
            | true =>
              conv => whnf
              rfl
            | false =>
              conv => whnf
              rfl
end Go.Proofs.Ytnkeijebkpjdgaa.Ab
/- Over the engine: what is asked of a node: guard's asking. -/
namespace Go.Proofs.Ytnkeijebkpjdgaa.Ab
open Go Go.RowKit

/-- What is to be set. -/
structure SetS where
  hm : Bool
  mode : Int
  hu : Bool
  user : Int
  hg : Bool
  group : Int
  hs : Bool
  size : Int
  rh : Int
  rs : Int
  rn : Int
  wh : Int
  ws : Int
  wn : Int
def setA (s : SetS) : List AV := [.bool s.hm, .int .u32 s.mode, .bool s.hu, .int .u32 s.user, .bool s.hg, .int .u32 s.group, .bool s.hs, .int .u64 s.size, .int .u32 s.rh, .int .u32 s.rs, .int .u32 s.rn, .int .u32 s.wh, .int .u32 s.ws, .int .u32 s.wn]
/-- What is asked, by whom, when. -/
def askA (v : AV) (gen n : Int) (c : CredS) (s : SetS) (ss sn : Int) (owns : Bool) : AV :=
  .agg [v, .int .u32 gen, .int .i64 n, .int .u32 c.user, .int .u32 c.group, c.gs, .bool s.hm, .int .u32 s.mode, .bool s.hu, .int .u32 s.user, .bool s.hg, .int .u32 s.group, .bool s.hs, .int .u64 s.size, .int .u32 s.rh, .int .u32 s.rs, .int .u32 s.rn, .int .u32 s.wh, .int .u32 s.ws, .int .u32 s.wn, .int .u32 ss, .int .u32 sn, .bool owns]
set_option maxRecDepth 100000
def nanoOk (n : Int) : Bool := decide (n < 1000000000)
theorem times_c (m : Nat) (from_ : FuncId) (h : H) (s n : Int) : evCall TE (m + 1) from_ (.fn 26 [] []) [.agg [.int .u32 s, .int .u32 n]] h = some (.ret (.bool (nanoOk n)), h) := by
  refine call_clean (fn := Try.f26) rfl Try.func26 rfl rfl rfl rfl rfl (Nat.le_of_ble_eq_true rfl) ?_
  conv => whnf
  rfl
def ownsS (ns : List NodeS) (n : Int) (c : CredS) : Bool := thereS ns n && (c.user == 0 || c.user == (match ns[n.toNat]? with | some x => x.user | none => 0))
theorem owns_c (m : Nat) (from_ : FuncId) (h : H) (v : AV) (ns : List NodeS) (hv : nodesOk v ns) (hok : ∀ x ∈ ns, x.ok) (gen n : Int) (c : CredS) (hc : c.ok) : evCall TE (m + 3) from_ (.fn 16 [] []) [.agg [v, .int .u32 gen], .int .i64 n, credA c] h = some (.ret (.bool (ownsS ns n c)), h) := by
  unfold ownsS
  cases hn : thereS ns n with
  | false =>
    have hat := fun (f : FuncId) (h : H) => attrs_none m f h v ns hv gen n hn
    obtain ⟨u, gr, gs, l⟩ := c
    obtain ⟨h1, h2⟩ := hc
    dsimp only at h1 h2
    rcases h1 with ⟨rfl, rfl⟩ | ⟨tt, rfl⟩ <;> rcases hv with ⟨rfl, rfl⟩ | ⟨t, rfl⟩
    all_goals refine call_clean (fn := Try.f16) rfl Try.func16 rfl rfl rfl rfl rfl (Nat.le_of_ble_eq_true rfl) ?_
    all_goals conv => whnf
    all_goals refine ⟨_, _, hat _ _, ?_⟩
    all_goals conv => whnf
    all_goals rfl
  | true =>
    obtain ⟨x, hx⟩ : ∃ x, ns[n.toNat]? = some x := by
      unfold thereS at hn
      simp only [Bool.and_eq_true, decide_eq_true_eq] at hn
      exact ⟨_, List.getElem?_eq_getElem (by omega)⟩
    have hat := fun (f : FuncId) (h : H) => attrs_some m f h v ns hv gen n x hn hx (hok x (List.mem_of_getElem? hx))
    obtain ⟨u, gr, gs, l⟩ := c
    obtain ⟨h1, h2⟩ := hc
    dsimp only at h1 h2
    rw [hx]
    dsimp only
    rcases h1 with ⟨rfl, rfl⟩ | ⟨tt, rfl⟩ <;> rcases hv with ⟨rfl, rfl⟩ | ⟨t, rfl⟩
    all_goals refine call_clean (fn := Try.f16) rfl Try.func16 rfl rfl rfl rfl rfl (Nat.le_of_ble_eq_true rfl) ?_
    all_goals conv => whnf
    all_goals refine ⟨_, _, hat _ _, ?_⟩
    all_goals conv => whnf
    all_goals cases h3 : u == 0
    all_goals conv => whnf
    all_goals rfl
/-- The refusals: of the form. -/
def badT (how nano : Int) : Bool := decide (how > 2) || (how == 2 && !nanoOk nano)
def form0 (s : SetS) (sn : Int) : Bool := (s.hm && decide (s.mode > 4095)) || !nanoOk sn
def form1 (s : SetS) (sn : Int) : Bool := form0 s sn || badT s.rh s.rn
def form2 (s : SetS) (sn : Int) : Bool := form1 s sn || badT s.wh s.wn
def formS (s : SetS) (sn : Int) : Int := if form2 s sn = true then 22 else 0
def writesS (ns : List NodeS) (n : Int) (c : CredS) (owns : Bool) : Bool := owns || (match ns[n.toNat]? with | some x => mayX x c 2 | none => false)
def ownerS (x : NodeS) (c : CredS) (s : SetS) (owns : Bool) : Bool :=
  (s.hm && !owns) || (s.hu && !(c.user == 0) && (!owns || s.user != x.user)) || (s.hg && (!owns || (!(c.user == 0) && s.group != x.group && !inS c s.group)))
def sizeB (x : NodeS) (s : SetS) (w : Bool) : Int := if s.hs = false then 0 else if (x.kind == 2) = true then 21 else if (x.kind == 5) = true then 22 else if decide (s.size > 65536) = true then 27 else if w = false then 13 else 0
def stampsB (s : SetS) (owns w : Bool) : Int := if ((s.rh == 2 || s.wh == 2) && !owns) = true then 1 else if ((s.rh == 1 || s.wh == 1) && !w) = true then 13 else 0
section
variable (m : Nat) (from_ : FuncId) (h : H) (ns : List NodeS) (t : Bool) (gen n : Int) (c : CredS) (hc : c.ok) (s : SetS) (ss sn : Int) (owns : Bool)
include hc
variable (hok : ∀ x ∈ ns, x.ok) (hn : thereS ns n = true) (x : NodeS) (hx : ns[n.toNat]? = some x)
include hok hn hx
end
end Go.Proofs.Ytnkeijebkpjdgaa.Ab
/- Over the engine: how great a tree is. -/
namespace Go.Proofs.Ytnkeijebkpjdgaa.Ab
open Go Go.RowKit

def entsSize (l : List EntryS) : Int := l.length + (l.map fun e => (e.name.length : Int)).sum
def nodeSize (x : NodeS) : Int := 1 + x.target.length + x.bytes.length + entsSize x.ents
def nodesSize (l : List NodeS) : Int := l.length + (l.map nodeSize).sum
set_option maxRecDepth 100000
theorem sum_take {α : Type} (f : α → Int) {l : List α} {i : Nat} {x : α} (h : l[i]? = some x) : ((l.take (i + 1)).map f).sum = ((l.take i).map f).sum + f x := by
  rw [List.take_add_one, h]
  simp
theorem bytesSize_c (m : Nat) (from_ : FuncId) (h : H) (v : AV) (l : List Int) (hv : rowOk .u8 v l) : evCall TE (m + 1) from_ (.fn 41 [] []) [v] h = some (.ret (.int .i64 l.length), h) := by
  rcases hv with ⟨rfl, rfl⟩ | ⟨t, rfl⟩
  · skip
    kernel_rfl
  · skip
    kernel_rfl
def entsS (l : List EntryS) (t : Bool) (p : Int × Int) : ST :=
  ⟨RG.of 26 [(4, .int .i64 p.1), (3, .int .i64 p.2), (0, .sl (entriesA l) l.length t)], ⟨[], []⟩⟩
theorem entsSize_c (m : Nat) (v : AV) (l : List EntryS) (hv : entsOk v l) (hn : ∀ e ∈ l, e.name.length ≤ 140737488351232) (hl : l.length ≤ 140737488351232) :
    ∃ v', (∃ r : Int, v' = .int .i64 r ∧ 0 ≤ r ∧ r ≤ 281474976710656 ∧ (r ≤ 1048576 → r = entsSize l)) ∧ ∀ (from_ : FuncId) (h : H), evCall TE (m + 1) from_ (.fn 78 [] []) [v] h = some (.ret v', h) := by
  rcases hv with ⟨rfl, rfl⟩ | ⟨t, rfl⟩
  · refine ⟨_, ⟨0, rfl, by omega, by omega, fun _ => rfl⟩, fun from_ h => ?_⟩
    kernel_rfl
  · refine call_cleanP (fn := Try.f78) rfl Try.func78 rfl (fun _ => rfl) rfl rfl (Nat.le_of_ble_eq_true rfl) ?_
    conv => whnf
    refine ⟨l.length + 1, by show l.length + 1 ≤ 4611686018427387904; omega, ?_⟩
    refine rounds_ind (entsS l t) (fun p => 0 ≤ p.1 ∧ p.1 ≤ l.length ∧ 0 ≤ p.2 ∧ p.2 ≤ 281474976710656 ∧ (p.2 ≤ 1048576 → p.2 = l.length + ((l.take p.1.toNat).map fun e => (e.name.length : Int)).sum)) (fun p => (l.length - p.1).toNat) ?_ _ (0, l.length) _ ⟨by dsimp only; omega, by dsimp only; omega, by dsimp only; omega, by dsimp only; omega, fun _ => by simp⟩ (by simp) (by kernel_rfl)
    intro p m' hI ih
    obtain ⟨i, s⟩ := p
    dsimp only at hI ih ⊢
    conv => whnf
    cases h1 : decide (i < (l.length : Int)) with
    | false =>
      have h1 := of_decide_eq_false h1
      conv => whnf
      refine ⟨rfl, s, rfl, hI.2.2.1, hI.2.2.2.1, fun hs => ?_⟩
      rw [hI.2.2.2.2 hs, List.take_of_length_le (by omega)]
      rfl
    | true =>
      have h1 := of_decide_eq_true h1
      conv => whnf
      cases h2 : decide (s ≤ 1048576) with
      | false =>
        have h2 := of_decide_eq_false h2
        conv => whnf
        exact ⟨rfl, s, rfl, hI.2.2.1, hI.2.2.2.1, fun hs => absurd hs h2⟩
      | true =>
        have h2 := of_decide_eq_true h2
        obtain ⟨x, hx⟩ : ∃ x, l[i.toNat]? = some x := ⟨_, List.getElem?_eq_getElem (by omega)⟩
        have hxn := hn x (List.mem_of_getElem? hx)
        conv => whnf
        refine runK_ret (ev_indexSl (sz := 3) rfl rfl rfl rfl (by omega) h1) ?_
        conv => whnf
        refine runK_ret (ev_loadV (z := 1) rfl rfl rfl ((entriesA_cell hx 0 (by decide)).trans rfl)) ?_
        conv => whnf
        have hw : IntKind.wrap .i64 (i + 1) = i + 1 := wrap64 (by omega) (by omega)
        have hw2 : IntKind.wrap .i64 (s + (x.name.length : Int)) = s + x.name.length := wrap64 (by omega) (by omega)
        refine ih (IntKind.wrap .i64 (i + 1), IntKind.wrap .i64 (s + (x.name.length : Int))) _ ?_ ?_ (by kernel_rfl)
        · dsimp only
          rw [hw, hw2]
          refine ⟨by omega, by omega, by omega, by omega, fun _ => ?_⟩
          rw [show (i + 1).toNat = i.toNat + 1 by omega, sum_take _ hx, hI.2.2.2.2 h2]
          omega
        · dsimp only
          rw [hw]; omega
set_option maxHeartbeats 4000000 in
theorem nodeSize_c (m : Nat) (x : NodeS) (hok : x.ok) (hr : x.rng) :
    ∃ v', (∃ r : Int, v' = .int .i64 r ∧ 0 ≤ r ∧ r ≤ 1125899906842624 ∧ (r ≤ 1048576 → r = nodeSize x)) ∧ ∀ (from_ : FuncId) (h : H), evCall TE (m + 2) from_ (.fn 64 [] []) [.agg (nodeA x)] h = some (.ret v', h) := by
  have hb := fun (f : FuncId) (h : H) => bytesSize_c m f h x.data x.bytes hok.1
  have hbl := hr.bytesL
  have htl := hr.target
  have hel := hr.entsL
  obtain ⟨_, ⟨re, rfl, hr0, hr1, hr2⟩, he⟩ := entsSize_c m x.list x.ents hok.2 (fun e he => (hr.ents e he).1) (by omega)
  unfold nodeSize
  obtain ⟨kd, ge, mo, us, gr, li, rs, rn, ws, wn, ts, tn, da, by_, vf, ta, ls, es, pa, nx⟩ := x
  simp only [NodeS.ok, rowOk, entsOk] at hok
  obtain ⟨hd, hl⟩ := hok
  dsimp only at hb he hbl htl hel hr2 ⊢
  clear hr
  obtain ⟨bn, hbn⟩ : ∃ bn : Nat, by_.length = bn := ⟨_, rfl⟩
  rw [hbn] at hb hbl
  rw [hbn]
  clear hbn
  have hw0 : IntKind.wrap .i64 (1 + (ta.length : Int)) = 1 + ta.length := wrap64 (by omega) (by omega)
  have hw1 : IntKind.wrap .i64 (1 + (ta.length : Int) + (bn : Int)) = 1 + ta.length + bn := wrap64 (by omega) (by omega)
  have hw2 : IntKind.wrap .i64 (1 + (ta.length : Int) + (bn : Int) + re) = 1 + ta.length + bn + re := wrap64 (by omega) (by omega)
  rcases hd with ⟨rfl, rfl⟩ | ⟨dt, rfl⟩ <;> rcases hl with ⟨rfl, rfl⟩ | ⟨lt, rfl⟩
  all_goals
    refine call_cleanP (fn := Try.f64) rfl Try.func64 rfl (fun _ => rfl) rfl rfl (Nat.le_of_ble_eq_true rfl) ?_
    conv => whnf
    rw [hw0]
    cases h1 : decide (1 + (ta.length : Int) ≤ 1048576) with
    | false =>
      conv => whnf
      rw [h1]
      have h1 := of_decide_eq_false h1
      conv => whnf
      exact ⟨rfl, _, rfl, by omega, by omega, fun h => absurd h h1⟩
    | true =>
      have h1 := of_decide_eq_true h1
      conv => whnf
      refine ⟨_, _, hb _ _, ?_⟩
      conv => whnf
      rw [hw1]
      cases h2 : decide (1 + (ta.length : Int) + (bn : Int) ≤ 1048576) with
      | false =>
        have h2 := of_decide_eq_false h2
        conv => whnf
        exact ⟨rfl, _, rfl, by omega, by omega, fun h => absurd h h2⟩
      | true =>
        have h2 := of_decide_eq_true h2
        conv => whnf
        refine ⟨_, _, he _ _, ?_⟩
        conv => whnf
        rw [hw2]
        exact ⟨rfl, _, rfl, by omega, by omega, fun h => by rw [hr2 (by omega)]⟩
def nodesSS (l : List NodeS) (t : Bool) (p : Int × Int) : ST :=
  ⟨RG.of 25 [(4, .int .i64 p.1), (3, .int .i64 p.2), (0, .sl (nodesA l) l.length t)], ⟨[], []⟩⟩
set_option maxHeartbeats 1000000 in
theorem nodesSize_c (m : Nat) (v : AV) (l : List NodeS) (hv : nodesOk v l) (hok : ∀ x ∈ l, x.ok ∧ x.rng) (hl : l.length ≤ 140737488351232) :
    ∃ v', (∃ r : Int, v' = .int .i64 r ∧ 0 ≤ r ∧ r ≤ 2251799813685248 ∧ (r ≤ 1048576 → r = nodesSize l)) ∧ ∀ (from_ : FuncId) (h : H), evCall TE (m + 3) from_ (.fn 40 [] []) [v] h = some (.ret v', h) := by
  rcases hv with ⟨rfl, rfl⟩ | ⟨t, rfl⟩
  · refine ⟨_, ⟨0, rfl, by omega, by omega, fun _ => rfl⟩, fun from_ h => ?_⟩
    kernel_rfl
  · refine call_cleanP (fn := Try.f40) rfl Try.func40 rfl (fun _ => rfl) rfl rfl (Nat.le_of_ble_eq_true rfl) ?_
    conv => whnf
    refine ⟨l.length + 1, by show l.length + 1 ≤ 4611686018427387904; omega, ?_⟩
    refine rounds_ind (nodesSS l t) (fun p => 0 ≤ p.1 ∧ p.1 ≤ l.length ∧ 0 ≤ p.2 ∧ p.2 ≤ 2251799813685248 ∧ (p.2 ≤ 1048576 → p.2 = l.length + ((l.take p.1.toNat).map nodeSize).sum)) (fun p => (l.length - p.1).toNat) ?_ _ (0, l.length) _ ⟨by dsimp only; omega, by dsimp only; omega, by dsimp only; omega, by dsimp only; omega, fun _ => by simp⟩ (by simp) (by kernel_rfl)
    intro p m' hI ih
    obtain ⟨i, s⟩ := p
    dsimp only at hI ih ⊢
    conv => whnf
    cases h1 : decide (i < (l.length : Int)) with
    | false =>
      have h1 := of_decide_eq_false h1
      conv => whnf
      refine ⟨rfl, s, rfl, hI.2.2.1, hI.2.2.2.1, fun hs => ?_⟩
      rw [hI.2.2.2.2 hs, List.take_of_length_le (by omega)]
      rfl
    | true =>
      have h1 := of_decide_eq_true h1
      conv => whnf
      cases h2 : decide (s ≤ 1048576) with
      | false =>
        have h2 := of_decide_eq_false h2
        conv => whnf
        exact ⟨rfl, s, rfl, hI.2.2.1, hI.2.2.2.1, fun hs => absurd hs h2⟩
      | true =>
        have h2 := of_decide_eq_true h2
        obtain ⟨x, hx⟩ : ∃ x, l[i.toNat]? = some x := ⟨_, List.getElem?_eq_getElem (by omega)⟩
        have hxm := List.mem_of_getElem? hx
        obtain ⟨_, ⟨r, rfl, hr0, hr1, hr2⟩, hc⟩ := nodeSize_c m x (hok x hxm).1 (hok x hxm).2
        conv => whnf
        refine runK_ret (ev_indexSl (sz := 25) rfl rfl rfl rfl (by omega) h1) ?_
        conv => whnf
        have hlen : i.toNat * 25 + 25 ≤ (nodesA l).length := by rw [nodesA_len]; omega
        refine runK_ret (ev_loadVA (z := 25) rfl rfl rfl hlen (nodesA_node hx)) ?_
        conv => whnf
        refine ⟨_, _, hc _ _, ?_⟩
        conv => whnf
        have hw : IntKind.wrap .i64 (i + 1) = i + 1 := wrap64 (by omega) (by omega)
        have hw2 : IntKind.wrap .i64 (s + r) = s + r := wrap64 (by omega) (by omega)
        refine ih (IntKind.wrap .i64 (i + 1), IntKind.wrap .i64 (s + r)) _ ?_ ?_ (by kernel_rfl)
        · dsimp only
          rw [hw, hw2]
          refine ⟨by omega, by omega, by omega, by omega, fun _ => ?_⟩
          rw [show (i + 1).toNat = i.toNat + 1 by omega, sum_take _ hx, hI.2.2.2.2 h2, hr2 (by omega)]
          omega
        · dsimp only
          rw [hw]; omega
def treeSize (t : TreeS) : Int := 1 + nodesSize t.ns
theorem treeSize_c (m : Nat) (t : TreeS) (ht : t.ok) :
    ∃ v', (∃ r : Int, v' = .int .i64 r ∧ 0 ≤ r ∧ (r ≤ 1048576 → r = treeSize t)) ∧ ∀ (from_ : FuncId) (h : H), evCall TE (m + 4) from_ (.fn 18 [] []) [treeA t] h = some (.ret v', h) := by
  obtain ⟨_, ⟨r, rfl, hr0, hr1, hr2⟩, hc⟩ := nodesSize_c m t.v t.ns ht.v ht.ns ht.len
  have hv := ht.v
  obtain ⟨v, ns, gen⟩ := t
  dsimp only at hv hc hr2
  have hw : IntKind.wrap .i64 (1 + r) = 1 + r := wrap64 (by omega) (by omega)
  rcases hv with ⟨rfl, rfl⟩ | ⟨t, rfl⟩
  all_goals
    refine call_cleanP (fn := Try.f18) rfl Try.func18 rfl (fun _ => rfl) rfl rfl (Nat.le_of_ble_eq_true rfl) ?_
    conv => whnf
    refine ⟨_, _, hc _ _, ?_⟩
    conv => whnf
    rw [hw]
    exact ⟨rfl, _, rfl, by omega, fun h => by rw [hr2 (by omega)]; rfl⟩
end Go.Proofs.Ytnkeijebkpjdgaa.Ab
/- Over the engine: trees that come as arguments. -/
namespace Go.Proofs.Ytnkeijebkpjdgaa.Ab
open Go Go.RowKit

def timeTy : Ty := .seq [.int .u32, .int .u32]
def entryTy : Ty := .seq [.str, .int .i64, .int .u64]
def nodeTyL : List Ty := [.int .u32, .int .u32, .int .u32, .int .u32, .int .u32, .int .i64, timeTy, timeTy, timeTy, .sl 1 (.int .u8), .seq [.int .u8, .int .u8, .int .u8, .int .u8, .int .u8, .int .u8, .int .u8, .int .u8], .str, .sl 32 entryTy, .int .i64, .int .u64]
def nodeTy (B : Nat) : Ty := .sl B (.seq nodeTyL)
theorem rows_of {α : Type} (f : α → List AV) (P : α → Prop) : ∀ rows : List (List AV), (∀ r ∈ rows, ∃ x, r = f x ∧ P x) → ∃ l : List α, rows = l.map f ∧ ∀ x ∈ l, P x
  | [], _ => ⟨[], rfl, fun x h => by cases h⟩
  | r :: rows, h => by
    obtain ⟨x, hx, hp⟩ := h r (List.mem_cons_self ..)
    obtain ⟨l, hl, hP⟩ := rows_of f P rows fun r hr => h r (List.mem_cons_of_mem _ hr)
    exact ⟨x :: l, by rw [hx, hl]; rfl, fun y hy => by
      rcases List.mem_cons.1 hy with rfl | hy
      · exact hp
      · exact hP y hy⟩
theorem wf_u8 {x : Int} (h : (Lit.int .u8 x).wf = true) : 0 ≤ x ∧ x < 256 := by
  simp only [Lit.wf, Bool.and_eq_true, decide_eq_true_eq] at h
  rw [show IntKind.u8.min = 0 from rfl, show IntKind.u8.max = 255 from rfl] at h
  omega
theorem wf_i64 {x : Int} (h : (Lit.int .i64 x).wf = true) : -9223372036854775808 ≤ x ∧ x < 9223372036854775808 := by
  simp only [Lit.wf, Bool.and_eq_true, decide_eq_true_eq] at h
  rw [show IntKind.i64.min = -9223372036854775808 from rfl, show IntKind.i64.max = 9223372036854775807 from rfl] at h
  omega
theorem wf_u64 {x : Int} (h : (Lit.int .u64 x).wf = true) : 0 ≤ x ∧ x < 18446744073709551616 := by
  simp only [Lit.wf, Bool.and_eq_true, decide_eq_true_eq] at h
  rw [show IntKind.u64.min = 0 from rfl, show IntKind.u64.max = 18446744073709551615 from rfl] at h
  omega
theorem nums_flat (k : IntKind) : ∀ l : List Int, (l.map fun n : Int => [AV.int k n]).flatten = numsA k l
  | [] => rfl
  | n :: l => by
    rw [List.map_cons, List.flatten_cons, nums_flat k l]
    rfl
theorem sh_row {k : IntKind} {B : Nat} {v : AV} (h : Sh (.sl B (.int k)) [v]) : ∃ l, rowOk k v l ∧ (∀ n ∈ l, (Lit.int k n).wf = true) ∧ l.length * B ≤ 140737488351232 := by
  unfold Sh at h
  rcases h with h | ⟨rows, t, h, hr, hB, _⟩
  · cases h
    refine ⟨[], .inl ⟨rfl, rfl⟩, ?_, Nat.le_trans (Nat.le_of_eq (Nat.zero_mul _)) (Nat.zero_le _)⟩
    intro n hn
    cases hn
  · cases h
    obtain ⟨l, rfl, hl⟩ := rows_of (fun n : Int => [AV.int k n]) (fun n => (Lit.int k n).wf = true) rows fun r hr' => by
      have := hr r hr'
      unfold Sh at this
      exact this
    refine ⟨l, .inr ⟨t, ?_⟩, hl, by simpa using hB⟩
    rw [nums_flat, List.length_map]
theorem sh_ents {v : AV} (h : Sh (.sl 32 entryTy) [v]) : ∃ l, entsOk v l ∧ (∀ e ∈ l, e.name.length ≤ 140737488351232 ∧ (-9223372036854775808 ≤ e.node ∧ e.node < 9223372036854775808) ∧ 0 ≤ e.cookie ∧ e.cookie < 18446744073709551616) ∧ l.length * 32 ≤ 140737488351232 := by
  unfold Sh at h
  rcases h with h | ⟨rows, t, h, hr, hB, _⟩
  · cases h
    refine ⟨[], .inl ⟨rfl, rfl⟩, ?_, Nat.le_trans (Nat.le_of_eq (Nat.zero_mul _)) (Nat.zero_le _)⟩
    intro n hn
    cases hn
  · cases h
    obtain ⟨l, rfl, hl⟩ := rows_of entryA (fun e => e.name.length ≤ 140737488351232 ∧ (-9223372036854775808 ≤ e.node ∧ e.node < 9223372036854775808) ∧ 0 ≤ e.cookie ∧ e.cookie < 18446744073709551616) rows fun r hr' => by
      have := hr r hr'
      simp only [entryTy, Sh, ShL] at this
      obtain ⟨_, _, rfl, ⟨s, rfl, hs⟩, _, _, rfl, ⟨n, rfl, hn⟩, _, _, rfl, ⟨c, rfl, hc⟩, rfl⟩ := this
      exact ⟨⟨s, n, c⟩, rfl, hs, wf_i64 hn, wf_u64 hc⟩
    exact ⟨l, .inr ⟨t, by rw [List.length_map]; rfl⟩, hl, by simpa using hB⟩
theorem sh_node {r : List AV} (h : Sh (.seq nodeTyL) r) : ∃ x : NodeS, r = nodeA x ∧ x.ok ∧ x.rng := by
  unfold Sh nodeTyL timeTy at h
  simp only [ShL] at h
  obtain ⟨_, _, rfl, a0, _, _, rfl, a1, _, _, rfl, a2, _, _, rfl, a3, _, _, rfl, a4, _, _, rfl, a5, _, _, rfl, a6, _, _, rfl, a7, _, _, rfl, a8, _, _, rfl, a9, _, _, rfl, a10, _, _, rfl, a11, _, _, rfl, a12, _, _, rfl, a13, _, _, rfl, a14, rfl⟩ := h
  have row1 : ∀ {B : Nat} {e : Ty} {as_ : List AV}, Sh (.sl B e) as_ → ∃ v, as_ = [v] := by
    intro B e as_ h
    unfold Sh at h
    rcases h with rfl | ⟨_, _, rfl, _⟩ <;> exact ⟨_, rfl⟩
  obtain ⟨da, rfl⟩ := row1 a9
  obtain ⟨ls, rfl⟩ := row1 a12
  obtain ⟨by_, hb1, hb2, hb3⟩ := sh_row a9
  obtain ⟨es, he1, he2, he3⟩ := sh_ents a12
  simp only [Sh, ShL] at a0 a1 a2 a3 a4 a5 a6 a7 a8 a10 a11 a13 a14
  obtain ⟨kd, rfl, w0⟩ := a0
  obtain ⟨ge, rfl, w1⟩ := a1
  obtain ⟨mo, rfl, w2⟩ := a2
  obtain ⟨us, rfl, w3⟩ := a3
  obtain ⟨gr, rfl, w4⟩ := a4
  obtain ⟨li, rfl, w5⟩ := a5
  obtain ⟨_, _, rfl, ⟨rs, rfl, w6⟩, _, _, rfl, ⟨rn, rfl, w7⟩, rfl⟩ := a6
  obtain ⟨_, _, rfl, ⟨ws, rfl, w8⟩, _, _, rfl, ⟨wn, rfl, w9⟩, rfl⟩ := a7
  obtain ⟨_, _, rfl, ⟨ts, rfl, w10⟩, _, _, rfl, ⟨tn, rfl, w11⟩, rfl⟩ := a8
  obtain ⟨_, _, rfl, ⟨v0, rfl, x0⟩, _, _, rfl, ⟨v1, rfl, x1⟩, _, _, rfl, ⟨v2, rfl, x2⟩, _, _, rfl, ⟨v3, rfl, x3⟩, _, _, rfl, ⟨v4, rfl, x4⟩, _, _, rfl, ⟨v5, rfl, x5⟩, _, _, rfl, ⟨v6, rfl, x6⟩, _, _, rfl, ⟨v7, rfl, x7⟩, rfl⟩ := a10
  obtain ⟨ta, rfl, w12⟩ := a11
  obtain ⟨pa, rfl, w13⟩ := a13
  obtain ⟨nx, rfl, w14⟩ := a14
  refine ⟨⟨kd, ge, mo, us, gr, li, rs, rn, ws, wn, ts, tn, da, by_, fun i => match i with | 0 => v0 | 1 => v1 | 2 => v2 | 3 => v3 | 4 => v4 | 5 => v5 | 6 => v6 | _ => v7, ta, ls, es, pa, nx⟩, rfl, ⟨hb1, he1⟩, ?_⟩
  refine ⟨wf_u32 w0, wf_u32 w1, wf_u32 w2, wf_u32 w3, wf_u32 w4, wf_i64 w5, wf_u32 w6, wf_u32 w7, wf_u32 w8, wf_u32 w9, wf_u32 w10, wf_u32 w11, fun b hb => wf_u8 (hb2 b hb), by simpa using hb3, fun i hi => ?_, w12, he2, he3, wf_i64 w13, wf_u64 w14⟩
  obtain rfl | rfl | rfl | rfl | rfl | rfl | rfl | rfl : i = 0 ∨ i = 1 ∨ i = 2 ∨ i = 3 ∨ i = 4 ∨ i = 5 ∨ i = 6 ∨ i = 7 := by omega
  · exact wf_u8 x0
  · exact wf_u8 x1
  · exact wf_u8 x2
  · exact wf_u8 x3
  · exact wf_u8 x4
  · exact wf_u8 x5
  · exact wf_u8 x6
  · exact wf_u8 x7
theorem sh_nodes {B : Nat} {v : AV} (hB : 0 < B) (h : Sh (nodeTy B) [v]) : ∃ ns, nodesOk v ns ∧ (∀ x ∈ ns, x.ok ∧ x.rng) ∧ ns.length ≤ 140737488351232 := by
  unfold nodeTy Sh at h
  rcases h with h | ⟨rows, t, h, hr, hb, _⟩
  · cases h
    refine ⟨[], .inl ⟨rfl, rfl⟩, ?_, Nat.zero_le _⟩
    intro x hx
    cases hx
  · cases h
    obtain ⟨l, rfl, hl⟩ := rows_of nodeA (fun x => x.ok ∧ x.rng) rows fun r hr' => sh_node (hr r hr')
    refine ⟨l, .inr ⟨t, by rw [List.length_map]; rfl⟩, hl, ?_⟩
    rw [List.length_map] at hb
    exact Nat.le_trans (Nat.le_mul_of_pos_right _ hB) hb
def treeTyL (B : Nat) : List Ty := [nodeTy B, .int .u32]
theorem sh_tree {B : Nat} (hB : 0 < B) {r : List AV} (h : ShL (treeTyL B) r) : ∃ t : TreeS, r = [t.v, .int .u32 t.gen] ∧ t.ok := by
  unfold treeTyL at h
  simp only [ShL] at h
  obtain ⟨_, _, rfl, a0, _, _, rfl, a1, rfl⟩ := h
  obtain ⟨v, rfl⟩ : ∃ v, _ = [v] := by
    have := a0
    unfold nodeTy Sh at this
    rcases this with h | ⟨_, _, h, _⟩ <;> exact ⟨_, h⟩
  obtain ⟨ns, h1, h2, h3⟩ := sh_nodes hB a0
  unfold Sh at a1
  obtain ⟨g, rfl, hg⟩ := a1
  exact ⟨⟨v, ns, g⟩, rfl, h1, h2, h3, wf_u32 hg⟩
def credTyL : List Ty := [.int .u32, .int .u32, .sl 4 (.int .u32)]
theorem sh_cred {r : List AV} (h : ShL credTyL r) : ∃ c : CredS, r = [.int .u32 c.user, .int .u32 c.group, c.gs] ∧ c.ok ∧ (0 ≤ c.user ∧ c.user < 4294967296) ∧ (0 ≤ c.group ∧ c.group < 4294967296) ∧ c.l.length * 4 ≤ 140737488351232 ∧ ∀ n ∈ c.l, 0 ≤ n ∧ n < 4294967296 := by
  unfold credTyL at h
  simp only [ShL] at h
  obtain ⟨_, _, rfl, a0, _, _, rfl, a1, _, _, rfl, a2, rfl⟩ := h
  obtain ⟨v, rfl⟩ : ∃ v, _ = [v] := by
    have := a2
    unfold Sh at this
    rcases this with h | ⟨_, _, h, _⟩ <;> exact ⟨_, h⟩
  obtain ⟨l, h1, h2, h3⟩ := sh_row a2
  unfold Sh at a0 a1
  obtain ⟨u, rfl, hu⟩ := a0
  obtain ⟨g, rfl, hg⟩ := a1
  exact ⟨⟨u, g, v, l⟩, rfl, ⟨h1, by dsimp only; omega⟩, wf_u32 hu, wf_u32 hg, h3, fun n hn => wf_u32 (h2 n hn)⟩
end Go.Proofs.Ytnkeijebkpjdgaa.Ab
/- Over the engine: a setting that comes as an argument. -/
namespace Go.Proofs.Ytnkeijebkpjdgaa.Ab
open Go Go.RowKit
/-- A tree, a node, somebody, what is to be set, and the world. -/
structure SettingS where
  t : TreeS
  n : Int
  c : CredS
  s : SetS
  ss : Int
  sn : Int
  bo : Nat → Int
def settingA (x : SettingS) : AV := .agg [x.t.v, .int .u32 x.t.gen, .int .i64 x.n, .int .u32 x.c.user, .int .u32 x.c.group, x.c.gs, .bool x.s.hm, .int .u32 x.s.mode, .bool x.s.hu, .int .u32 x.s.user, .bool x.s.hg, .int .u32 x.s.group, .bool x.s.hs, .int .u64 x.s.size, .int .u32 x.s.rh, .int .u32 x.s.rs, .int .u32 x.s.rn, .int .u32 x.s.wh, .int .u32 x.s.ws, .int .u32 x.s.wn,
  .int .u32 x.ss, .int .u32 x.sn, .int .u8 (x.bo 0), .int .u8 (x.bo 1), .int .u8 (x.bo 2), .int .u8 (x.bo 3), .int .u8 (x.bo 4), .int .u8 (x.bo 5), .int .u8 (x.bo 6), .int .u8 (x.bo 7)]
def setTyL : List Ty := [.bool, .int .u32, .bool, .int .u32, .bool, .int .u32, .bool, .int .u64, .int .u32, .seq [.int .u32, .int .u32], .int .u32, .seq [.int .u32, .int .u32]]
def worldTyL : List Ty := [.seq [.int .u32, .int .u32], .seq [.int .u8, .int .u8, .int .u8, .int .u8, .int .u8, .int .u8, .int .u8, .int .u8]]
def settingTyL (B : Nat) : List Ty := [.seq (treeTyL B), .int .i64, .seq credTyL, .seq setTyL, .seq worldTyL]
structure SettingS.ok (x : SettingS) : Prop where
  t : x.t.ok
  c : x.c.ok
  size : 0 ≤ x.s.size ∧ x.s.size < 18446744073709551616
end Go.Proofs.Ytnkeijebkpjdgaa.Ab
/- Over the engine: more operations with letters; what is handed back, by lemmas. -/
namespace Go.Proofs.Ytnkeijebkpjdgaa.Ab
open Go Go.RowKit

theorem splice_left : ∀ (a b : List AV) (k : Nat) (vs : List AV), k + vs.length ≤ a.length → splice (a ++ b) k vs = splice a k vs ++ b
  | [], b, 0, [], _ => by cases b <;> rfl
  | [], b, k, v :: vs, h => by simp at h
  | [], b, k + 1, [], h => by simp at h
  | x :: a, b, 0, [], _ => rfl
  | x :: a, b, 0, v :: vs, h => by
    have := splice_left a b 0 vs (by simp at h ⊢; omega)
    simp only [List.cons_append, splice, this]
  | x :: a, b, k + 1, vs, h => by
    have := splice_left a b k vs (by simp at h ⊢; omega)
    simp only [List.cons_append, splice, this]
theorem splice_right : ∀ (a b : List AV) (k : Nat) (vs : List AV), splice (a ++ b) (a.length + k) vs = a ++ splice b k vs
  | [], b, k, vs => by simp
  | x :: a, b, k, vs => by
    rw [List.length_cons, show a.length + 1 + k = (a.length + k) + 1 by omega, List.cons_append]
    simp only [splice, splice_right a b k vs, List.cons_append]
theorem splice_rows {α : Type} {f : α → List AV} {z : Nat} (hf : ∀ x, (f x).length = z) : ∀ {l : List α} {i : Nat} {x x' : α} {k : Nat} {vs : List AV}, l[i]? = some x → k + vs.length ≤ z → splice (f x) k vs = f x' → splice (l.map f).flatten (i * z + k) vs = ((l.set i x').map f).flatten
  | [], i, x, x', k, vs, h, _, _ => by simp at h
  | y :: l, 0, x, x', k, vs, h, hk, he => by
    simp at h
    subst h
    rw [List.map_cons, List.flatten_cons, Nat.zero_mul, Nat.zero_add, splice_left _ _ _ _ (by rw [hf]; exact hk), he]
    rfl
  | y :: l, i + 1, x, x', k, vs, h, hk, he => by
    simp at h
    rw [List.map_cons, List.flatten_cons, show (i + 1) * z + k = (f y).length + (i * z + k) by rw [hf, Nat.add_mul]; omega, splice_right, splice_rows hf h hk he]
    rfl
theorem splice_nodes {ns : List NodeS} {i : Nat} {x x' : NodeS} {k : Nat} {vs : List AV} (hx : ns[i]? = some x) (hk : k + vs.length ≤ 25) (he : splice (nodeA x) k vs = nodeA x') : splice (nodesA ns) (i * 25 + k) vs = nodesA (ns.set i x') := splice_rows nodeA_len hx hk he

section
variable {P : Program} {flat : TypeId → Option (List Nat)} {nid : Nat} {ρ : Operand → AV}
/-- An append to an empty row. -/
theorem runK_append_new {t u e e' : TypeId} {sz by_ : Nat} {zc : List AV} {a x : Operand} {b n : Nat} {cells c : List AV} {tt : Bool} {i : BI} {h : List AB} {K : List RL → AV → WL → Prop} (ht : P.underlying t = some (.slice e)) (hu : P.underlying u = some (.slice e')) (hs : szOf P e = some sz) (hb : bytesA P e = some by_) (hz : zeroCellsA P e = some zc)
    (ha : ρ a = .rsl b 0 0 (some 0) 0) (hx : ρ x = .sl cells n tt) (hbb : h[b]? = some (.cells c i)) (hver : 0 = verA i c.length) (hn : 0 < n) (hl : cells.length = n * sz) (h1 : n ≤ 140737488355328) (h2 : n * by_ ≤ 140737488355328) (h3 : 0 < sz) (h4 : zc.length = sz)
    (hk : K [.info b, .cells b 0 (0 * sz)] (.rsl nid 0 n none (cells.length + 1)) (.new (.cells cells ⟨plainL zc, sz, true, true⟩))) : runK (evOp P flat nid (.call { callee := .builtin .append, args := #[a, x], argTypes := #[t, u] }) ρ) h K := by
  simp only [evOp, builtinA, List.map_cons, List.map_nil, appendA, ht, hs, hb, hz, ha, hx, newCells, List.head?_cons, hu, lenOfA, sliceCells, Option.getD_some]
  have e1 : (if True ∧ cells.length = n * sz then cells else cells.take (n * sz)) = cells := if_pos ⟨trivial, hl⟩
  simp only [e1]
  rw [if_pos ⟨Nat.le_refl _, by omega⟩, if_pos ⟨by omega, by rw [Nat.zero_add]; exact h2, h3, h4⟩]
  unfold runK
  simp only [hbb]
  rw [if_pos hver, if_neg (by omega)]
  unfold runK
  simp only [hbb]
  rw [if_pos (by omega)]
  refine runK_ret (v := .rsl nid 0 n none (cells.length + 1)) (w := .new (.cells cells ⟨plainL zc, sz, true, true⟩)) ?_ hk
  simp [cleanL]
theorem ev_clip {t e : TypeId} {sz n : Nat} {a hi mx : Operand} {cells : List AV} {tt : Bool} {k k' : IntKind} (ht : P.underlying t = some (.slice e)) (hs : szOf P e = some sz) (ha : ρ a = .sl cells n tt) (hh : ρ hi = .int k n) (hm : ρ mx = .int k' n) (hl : cells.length = n * sz) :
    evOp P flat nid (.slice t a none (some hi) (some mx)) ρ = .ret (.sl cells n true, .none) := by
  simp only [evOp, sliceA, ht, ha, hs, Option.map_some, Option.map_none, boundsA, boundA, hh, hm]
  rw [if_pos ⟨by omega, by omega⟩]
  simp only [Int.toNat_natCast]
  rw [if_pos ⟨by omega, by omega⟩]
  simp only [Nat.le_refl, and_self, if_true, hl, tightS, Int.toNat_natCast, decide_true, Nat.sub_zero]
end
section
variable {P : Program} {flat : TypeId → Option (List Nat)} {nid : Nat} {ρ : Operand → AV}
end
section
variable {P : Program} {flat : TypeId → Option (List Nat)} {nid : Nat} {ρ : Operand → AV}
theorem ev_makeN {t e : TypeId} {sz by_ : Nat} {z cs : List AV} {a b : Operand} {k k' : IntKind} {n : Nat} (ht : P.underlying t = some (.slice e)) (hs : szOf P e = some sz) (hb : bytesA P e = some by_) (hz : zeroCellsA P e = some z) (ha : ρ a = .int k n) (hy : ρ b = .int k' n)
    (h2 : n ≤ 140737488355328) (h3 : by_ * n ≤ 140737488355328) (h4 : z.length = sz) (h5 : 0 < sz) (h6 : oneL z = true) (hcs : repCells n z = cs) :
    evOp P flat nid (.makeSlice t a b) ρ = .ret (.rsl nid 0 n (some n) 0, .new (.cells cs ⟨cleanL z && plainL z, sz, false, true⟩)) := by
  rw [ev_makeSlice ht hs hb hz ha hy (by omega) (by omega) (by omega) (by have : (by_ * (n : Int)) = ((by_ * n : Nat) : Int) := by rw [Int.natCast_mul]
                                                                          omega) h4 h5 h6, Int.toNat_natCast, hcs]
end
section
variable {P : Program} {flat : TypeId → Option (List Nat)} {nid : Nat} {ρ : Operand → AV}
theorem ev_box {t : TypeId} {x : Operand} {c : List AV} (hx : (ρ x).toCells = some c) (ho : oneL c = true) : evOp P flat nid (.box t x) ρ = .ret (.ref nid 0 0, .new (.cells c ⟨false, 0, false, true⟩)) := by
  simp only [evOp, hx, ho, if_true]
end
/-- What is handed back, when it is known how it is sealed. -/
theorem leaveA_of {n : Nat} {v v' : AV} {h : H} {bs' : List AB} (hs : v.seal h.bs = (v', bs')) (hu : v'.und n = true) (he : escOk n h.esc = true) : leaveA false n v h = (v', { bs := bs'.take n, esc := escCut n h.esc }) := by
  unfold leaveA
  simp only [hs, hu, he, Bool.false_eq_true, if_false, Bool.and_self, if_true]
theorem seal_rsl {bs : List AB} {b off n ver : Nat} {cap : Option Nat} {c : List AV} {i : BI} (hb : bs[b]? = some (.cells c i)) (hv : ver = verA i c.length) (hw : i.wr = true) (hcl : i.cl = true) (hl : off + n * i.sz ≤ c.length) (hz : 0 < i.sz) :
    AV.seal bs (.rsl b off n cap ver) = (.sl ((c.drop off).take (n * i.sz)) n (tightA cap n), bs.set b (.cells c { i with wr := false })) := argA_rsl hb hv hw hcl hl hz
/-- The end of a body, told by a letter. -/
def EndOk (P : Program) (fn : Func) (raw : Bool) (n : Nat) (K : AV → H → Prop) (End : AX → ST → Prop) : Prop :=
  ∀ (x : AX) (s : ST) (vs : List AV) (v' : AV) (h' : H), (x = .normal ∨ x = .ret) → resA P s fn.results.toList = some vs → leaveA raw n (asOne vs) s.h = (v', h') → K v' h' → End x s
theorem body_end {E : Env} {call : CallF} {jmp : JumpF} {raw : Bool} {f : FuncId} {fn : Func} {c : Code} {args : List AV} {h : H} {K : AV → H → Prop} (hn : args.length ≤ fn.ntmps)
    (hwp : ∀ End, EndOk E.P fn raw h.bs.length K End → putsK (RG.empty fn.ntmps) 0 args fun r => codeK E call f jmp false c ⟨r, h⟩ End) : ∃ v h', evBody E call jmp raw f fn c args h = some (.ret v, h') ∧ K v h' := by
  have hw := hwp (fun x s => ∃ vs v' h', (x = .normal ∨ x = .ret) ∧ resA E.P s fn.results.toList = some vs ∧ leaveA raw h.bs.length (asOne vs) s.h = (v', h') ∧ K v' h') (fun x s vs v' h' h1 h2 h3 h4 => ⟨vs, v', h', h1, h2, h3, h4⟩)
  rw [putsK_eq] at hw
  obtain ⟨x, s', h1, vs, v', h', h2, h3, h4, h5⟩ := codeK_sound _ _ _ _ _ _ hw
  refine ⟨v', h', ?_, h5⟩
  unfold evBody
  rw [if_pos hn]
  rcases h2 with rfl | rfl <;> simp only [h1, h3, h4]
/-- call_clean, with the end told by a letter. -/
theorem call_cleanE {E : Env} {n : Nat} {from_ f : FuncId} {fn : Func} {c : Code} {x y args : List AV} {v : AV} {h : H} (hok : E.ok f = true) (hf : E.P.funcs[f]? = some fn) (hb : fn.body = some c) (hraw : E.raw from_ f = false) (hcl : cleanL (x ++ args ++ y) = true) (hv : v.clean = true)
    (hsum : E.sum f (x ++ args ++ y) = none) (hn : (x ++ args ++ y).length ≤ fn.ntmps)
    (hwp : ∀ End, EndOk E.P fn false 0 (fun v' _ => v' = v) End → putsK (RG.empty fn.ntmps) 0 (x ++ args ++ y) fun r => codeK E (evAll E n).1 f (evAll E n).2 false c ⟨r, ⟨[], []⟩⟩ End) : evCall E (n + 1) from_ (.fn f x y) args h = some (.ret v, h) := by
  obtain ⟨v', h', hk, rfl⟩ := body_end (h := ⟨[], []⟩) hn hwp
  have hcl' : cleanL args = true := by
    rw [cleanL_app, cleanL_app, Bool.and_eq_true, Bool.and_eq_true] at hcl
    exact hcl.1.2
  show stepCall E (evAll E n).1 (evAll E n).2 from_ (.fn f x y) args h = _
  unfold stepCall stepCall0
  simp only [hcl', Bool.not_true, Bool.and_false, hraw, argsA_clean args h.bs hcl', hok, hf, hb, hcl, hsum, hk, hv, Bool.false_eq_true, if_false, Bool.not_false, Bool.and_true, if_true]
/-! Sealing. -/
mutual
theorem sealV_clean (deep : List AB → List AV → List AV × List AB) (bs : List AB) : ∀ v : AV, v.clean = true → sealV deep bs v = (v, bs)
  | .ref .., h => by simp [AV.clean] at h
  | .rsl .., h => by simp [AV.clean] at h
  | .fn f x y, h => by
    simp only [AV.clean, Bool.and_eq_true] at h
    simp only [sealV, sealVL_clean deep bs x h.1, sealVL_clean deep bs y h.2]
  | .ifc t v, h => by
    simp only [AV.clean] at h
    simp only [sealV, sealV_clean deep bs v h]
  | .agg c, h => by
    simp only [AV.clean] at h
    simp only [sealV, sealVL_clean deep bs c h]
  | .tup c, h => by
    simp only [AV.clean] at h
    simp only [sealV, sealVL_clean deep bs c h]
  | .hole, _ => rfl
  | .bool _, _ => rfl
  | .int .., _ => rfl
  | .str _, _ => rfl
  | .ptr0, _ => rfl
  | .sl0, _ => rfl
  | .map0, _ => rfl
  | .fn0, _ => rfl
  | .ifc0, _ => rfl
  | .vref .., _ => rfl
  | .sl .., _ => rfl
  | .mref _, _ => rfl
  | .yc _, _ => rfl
theorem sealVL_clean (deep : List AB → List AV → List AV × List AB) (bs : List AB) : ∀ l : List AV, cleanL l = true → sealVL deep bs l = (l, bs)
  | [], _ => rfl
  | v :: r, h => by
    simp only [cleanL, Bool.and_eq_true] at h
    simp only [sealVL, sealV_clean deep bs v h.1, sealVL_clean deep bs r h.2]
end
/-- A row whose cells are sealed in their turn. -/
theorem seal_deep {bs bs' : List AB} {b n ver : Nat} {cap : Option Nat} {c c' d : List AV} {i j : BI} (hb : bs[b]? = some (.cells c i)) (hv : ver = verA i c.length) (hw : i.wr = true) (hcl : i.cl = false) (hd : sealVL (sealL 3) bs c = (c', bs')) (hb' : bs'[b]? = some (.cells d j))
    (h1 : cleanL c' = true) (h2 : c'.length = c.length) (h3 : d.length = c.length) (h4 : j.wr = true) (h5 : j.opn = i.opn) (h6 : j.sz = i.sz) (hl : c.length = n * i.sz) (hz : 0 < i.sz) : AV.seal bs (.rsl b 0 n cap ver) = (.sl c' n (tightA cap n), bs'.set b (.cells c' { j with cl := true, wr := false })) := by
  unfold AV.seal
  have hs : sealB (sealL 4) bs b ver = some (c', i, bs'.set b (.cells c' { j with cl := true, wr := false })) := by
    unfold sealB
    have e : sealL 4 bs c = (c', bs') := hd
    simp only [hb, e, hw, hcl, hb', h1, h2, h3, h4, h5, h6, Bool.true_eq_false, Bool.false_eq_true, if_false, if_true, beq_self_eq_true, Bool.and_self]
    rw [if_pos hv]
  simp only [sealV, hs]
  rw [if_pos ⟨by omega, hz⟩, if_pos ⟨trivial, by omega⟩]
end Go.Proofs.Ytnkeijebkpjdgaa.Ab
/- Over the engine: rows that are cloned and clipped. -/
namespace Go.Proofs.Ytnkeijebkpjdgaa.Ab
open Go Go.RowKit

set_option maxRecDepth 100000
/-- A row in memory of its own. -/
def rowC (c : List AV) (n : Nat) (v : AV) : AV := match v with
  | .sl0 => .sl0
  | _ => .sl c n true
theorem numsA_len (k : IntKind) (l : List Int) : (numsA k l).length = l.length * 1 := by simp [numsA]

theorem bytesClone_c (m : Nat) (from_ : FuncId) (h : H) (a : Int) (l : List Int) (t : Bool) (hl : (a :: l).length * 1 ≤ 140737488351232) : evCall TE (m + 1) from_ (.fn 50 [] []) [.sl (numsA .u8 (a :: l)) (a :: l).length t] h = some (.ret (.sl (numsA .u8 (a :: l)) (a :: l).length false), h) := by
  obtain ⟨n, hn⟩ : ∃ n, n = (a :: l).length := ⟨_, rfl⟩
  have hn0 : 0 < n := by rw [hn]; exact Nat.succ_pos _
  have hc : (numsA .u8 (a :: l)).length = n * 1 := by rw [numsA_len, hn]
  rw [← hn] at hl ⊢
  clear hn
  generalize numsA .u8 (a :: l) = c at hc ⊢
  refine call_cleanE (fn := Try.f50) rfl Try.func50 rfl rfl rfl rfl rfl (Nat.le_of_ble_eq_true rfl) ?_
  intro End hE
  conv => whnf
  (refine runK_append_new (sz := 1) (by_ := 1) rfl rfl rfl rfl rfl rfl rfl rfl rfl hn0 hc (by omega) (by omega) (by decide) rfl ?_)
  conv => whnf
  (refine hE _ _ [_] _ _ (.inr rfl) rfl (leaveA_of (seal_rsl rfl rfl rfl rfl (by show 0 + n * 1 ≤ c.length; omega) (by decide)) rfl rfl) ?_)
  conv => whnf
  (show AV.sl ((c.drop 0).take (n * 1)) n false = _; rw [List.drop_zero, ← hc, List.take_length])
theorem bytesClone_0 (m : Nat) (from_ : FuncId) (h : H) (t : Bool) : evCall TE (m + 1) from_ (.fn 50 [] []) [.sl [] 0 t] h = some (.ret (.sl [] 0 true), h) := by
  refine call_clean (fn := Try.f50) rfl Try.func50 rfl rfl rfl rfl rfl (Nat.le_of_ble_eq_true rfl) ?_
  conv => whnf
  rfl
theorem bytesClone_nil (m : Nat) (from_ : FuncId) (h : H) : evCall TE (m + 1) from_ (.fn 50 [] []) [.sl0] h = some (.ret .sl0, h) := by
  refine call_clean (fn := Try.f50) rfl Try.func50 rfl rfl rfl rfl rfl (Nat.le_of_ble_eq_true rfl) ?_
  conv => whnf
theorem bytesClip_c (m : Nat) (from_ : FuncId) (h : H) (l : List Int) (t : Bool) : evCall TE (m + 1) from_ (.fn 49 [] []) [.sl (numsA .u8 l) l.length t] h = some (.ret (.sl (numsA .u8 l) l.length true), h) := by
  have hc : (numsA .u8 l).length = l.length * 1 := by rw [numsA_len]
  refine call_clean (fn := Try.f49) rfl Try.func49 rfl rfl rfl rfl rfl (Nat.le_of_ble_eq_true rfl) ?_
  conv => whnf
  (refine runK_ret (ev_clip (sz := 1) rfl rfl rfl rfl rfl hc) ?_)
  conv => whnf
theorem bytesClip_0 (m : Nat) (from_ : FuncId) (h : H) (t : Bool) : evCall TE (m + 1) from_ (.fn 49 [] []) [.sl [] 0 t] h = some (.ret (.sl [] 0 true), h) := bytesClip_c m from_ h [] t
theorem bytes_three {v : AV} {l : List Int} (hv : rowOk .u8 v l) : (v = .sl0 ∧ l = []) ∨ (∃ t, v = .sl [] 0 t ∧ l = []) ∨ ∃ a r t, v = .sl (numsA .u8 (a :: r)) (a :: r).length t ∧ l = a :: r := by
  rcases hv with h | ⟨t, rfl⟩
  · exact .inl h
  · cases l with
    | nil => exact .inr (.inl ⟨t, rfl, rfl⟩)
    | cons a r => exact .inr (.inr ⟨a, r, t, rfl, rfl⟩)
theorem bytesClip_nil (m : Nat) (from_ : FuncId) (h : H) : evCall TE (m + 1) from_ (.fn 49 [] []) [.sl0] h = some (.ret .sl0, h) := by
  refine call_clean (fn := Try.f49) rfl Try.func49 rfl rfl rfl rfl rfl (Nat.le_of_ble_eq_true rfl) ?_
  conv => whnf
theorem bytesC_ok {v : AV} {l : List Int} (hv : rowOk .u8 v l) : rowOk .u8 (rowC (numsA .u8 l) l.length v) l := by
  rcases hv with ⟨rfl, rfl⟩ | ⟨t, rfl⟩
  · exact .inl ⟨rfl, rfl⟩
  · exact .inr ⟨true, rfl⟩

theorem entsClone_c (m : Nat) (from_ : FuncId) (h : H) (a : EntryS) (l : List EntryS) (t : Bool) (hl : (a :: l).length * 32 ≤ 140737488351232) : evCall TE (m + 1) from_ (.fn 52 [] []) [.sl (entriesA (a :: l)) (a :: l).length t] h = some (.ret (.sl (entriesA (a :: l)) (a :: l).length false), h) := by
  obtain ⟨n, hn⟩ : ∃ n, n = (a :: l).length := ⟨_, rfl⟩
  have hn0 : 0 < n := by rw [hn]; exact Nat.succ_pos _
  have hc : (entriesA (a :: l)).length = n * 3 := by rw [entriesA_len, hn]
  rw [← hn] at hl ⊢
  clear hn
  generalize entriesA (a :: l) = c at hc ⊢
  refine call_cleanE (fn := Try.f52) rfl Try.func52 rfl rfl rfl rfl rfl (Nat.le_of_ble_eq_true rfl) ?_
  intro End hE
  conv => whnf
  (refine runK_append_new (sz := 3) (by_ := 32) rfl rfl rfl rfl rfl rfl rfl rfl rfl hn0 hc (by omega) (by omega) (by decide) rfl ?_)
  conv => whnf
  (refine hE _ _ [_] _ _ (.inr rfl) rfl (leaveA_of (seal_rsl rfl rfl rfl rfl (by show 0 + n * 3 ≤ c.length; omega) (by decide)) rfl rfl) ?_)
  conv => whnf
  (show AV.sl ((c.drop 0).take (n * 3)) n false = _; rw [List.drop_zero, ← hc, List.take_length])
theorem entsClone_0 (m : Nat) (from_ : FuncId) (h : H) (t : Bool) : evCall TE (m + 1) from_ (.fn 52 [] []) [.sl [] 0 t] h = some (.ret (.sl [] 0 true), h) := by
  refine call_clean (fn := Try.f52) rfl Try.func52 rfl rfl rfl rfl rfl (Nat.le_of_ble_eq_true rfl) ?_
  conv => whnf
  rfl
theorem entsClone_nil (m : Nat) (from_ : FuncId) (h : H) : evCall TE (m + 1) from_ (.fn 52 [] []) [.sl0] h = some (.ret .sl0, h) := by
  refine call_clean (fn := Try.f52) rfl Try.func52 rfl rfl rfl rfl rfl (Nat.le_of_ble_eq_true rfl) ?_
  conv => whnf
theorem entsClip_c (m : Nat) (from_ : FuncId) (h : H) (l : List EntryS) (t : Bool) : evCall TE (m + 1) from_ (.fn 51 [] []) [.sl (entriesA l) l.length t] h = some (.ret (.sl (entriesA l) l.length true), h) := by
  have hc : (entriesA l).length = l.length * 3 := by rw [entriesA_len]
  refine call_clean (fn := Try.f51) rfl Try.func51 rfl rfl rfl rfl rfl (Nat.le_of_ble_eq_true rfl) ?_
  conv => whnf
  (refine runK_ret (ev_clip (sz := 3) rfl rfl rfl rfl rfl hc) ?_)
  conv => whnf
theorem entsClip_0 (m : Nat) (from_ : FuncId) (h : H) (t : Bool) : evCall TE (m + 1) from_ (.fn 51 [] []) [.sl [] 0 t] h = some (.ret (.sl [] 0 true), h) := entsClip_c m from_ h [] t
theorem ents_three {v : AV} {l : List EntryS} (hv : entsOk v l) : (v = .sl0 ∧ l = []) ∨ (∃ t, v = .sl [] 0 t ∧ l = []) ∨ ∃ a r t, v = .sl (entriesA (a :: r)) (a :: r).length t ∧ l = a :: r := by
  rcases hv with h | ⟨t, rfl⟩
  · exact .inl h
  · cases l with
    | nil => exact .inr (.inl ⟨t, rfl, rfl⟩)
    | cons a r => exact .inr (.inr ⟨a, r, t, rfl, rfl⟩)
theorem entsClip_nil (m : Nat) (from_ : FuncId) (h : H) : evCall TE (m + 1) from_ (.fn 51 [] []) [.sl0] h = some (.ret .sl0, h) := by
  refine call_clean (fn := Try.f51) rfl Try.func51 rfl rfl rfl rfl rfl (Nat.le_of_ble_eq_true rfl) ?_
  conv => whnf
theorem entsC_ok {v : AV} {l : List EntryS} (hv : entsOk v l) : entsOk (rowC (entriesA l) l.length v) l := by
  rcases hv with ⟨rfl, rfl⟩ | ⟨t, rfl⟩
  · exact .inl ⟨rfl, rfl⟩
  · exact .inr ⟨true, rfl⟩
end Go.Proofs.Ytnkeijebkpjdgaa.Ab
/- Over the engine: a tree that is cloned. -/
namespace Go.Proofs.Ytnkeijebkpjdgaa.Ab
open Go Go.RowKit

set_option maxRecDepth 100000
def node0 : NodeS := ⟨0, 0, 0, 0, 0, 0, 0, 0, 0, 0, 0, 0, .sl0, [], fun _ => 0, [], .sl0, [], 0, 0⟩
/-- What is known of a node, wherever it comes from. -/
def NodeS.fit (x : NodeS) : Prop := x.ok ∧ x.bytes.length ≤ 140737488351232 ∧ x.ents.length * 32 ≤ 140737488351232
/-- A node in memory of its own. -/
def cloneN (x : NodeS) : NodeS := { x with data := rowC (numsA .u8 x.bytes) x.bytes.length x.data, list := rowC (entriesA x.ents) x.ents.length x.list }
theorem topL_app : ∀ (a b : List AV), topL (a ++ b) = max (topL a) (topL b)
  | [], b => by simp [topL]
  | x :: a, b => by simp only [List.cons_append, topL, topL_app a b, Nat.max_assoc]
/-- So many are cloned. -/
def midN (ns : List NodeS) (i : Nat) : List NodeS := (ns.take i).map cloneN ++ ns.drop i
theorem midN_zero (ns : List NodeS) : midN ns 0 = ns := by simp [midN]
theorem midN_all (ns : List NodeS) {i : Nat} (h : ns.length ≤ i) : midN ns i = ns.map cloneN := by simp [midN, List.take_of_length_le h, List.drop_eq_nil_of_le h]
theorem midN_len (ns : List NodeS) (i : Nat) : (midN ns i).length = ns.length := by simp [midN]; omega
theorem midN_get {ns : List NodeS} {i : Nat} {x : NodeS} (h : ns[i]? = some x) : (midN ns i)[i]? = some x := by
  obtain ⟨h1, rfl⟩ := List.getElem?_eq_some_iff.1 h
  unfold midN
  rw [List.getElem?_append_right (by simp; omega)]
  simp [Nat.min_eq_left (Nat.le_of_lt h1)]
theorem midN_set {ns : List NodeS} {i : Nat} {x : NodeS} (h : ns[i]? = some x) : (midN ns i).set i (cloneN x) = midN ns (i + 1) := by
  obtain ⟨h1, rfl⟩ := List.getElem?_eq_some_iff.1 h
  unfold midN
  rw [List.set_append_right _ _ (by simp; omega)]
  simp only [List.length_map, List.length_take, Nat.min_eq_left (Nat.le_of_lt h1), Nat.sub_self]
  rw [List.drop_eq_getElem_cons h1, List.set_cons_zero, List.take_succ_eq_append_getElem h1, List.map_append, List.append_assoc]
  rfl
def cloneS (B : List AB) (ns : List NodeS) (t : Bool) (gen : Int) (a : Int × List NodeS) : ST :=
  ⟨RG.of 44 [(15, .int .i64 a.1), (14, .int .i64 ns.length), (3, .rsl 21 0 ns.length (some ns.length) 0), (2, .ref 20 0 0), (1, .ref 19 0 0)], ⟨B ++ [.cells [.sl (nodesA ns) ns.length t, .int .u32 gen] ⟨false, 0, false, true⟩, .cells [.sl0, .int .u32 0] ⟨false, 0, false, true⟩, .cells (nodesA a.2) ⟨false, 25, false, true⟩], []⟩⟩
theorem splice_nodes0 {ns : List NodeS} {i : Nat} {x x' : NodeS} {k : Nat} {vs : List AV} (hx : ns[i]? = some x) (hk : k + vs.length ≤ 25) (he : splice (nodeA x) k vs = nodeA x') : splice (nodesA ns) (0 + i * 25 + k) vs = nodesA (ns.set i x') := by
  rw [Nat.zero_add]
  exact splice_nodes hx hk he
end Go.Proofs.Ytnkeijebkpjdgaa.Ab
