import Derived.Test.YtbebcbcnibfbhaaF2
import Derived.Laws.BitsLemmas
import Derived.Laws.Bits64
/- Over the engine, third text: creds.In. -/
namespace Go.Proofs.Ytbebcbcnibfbhaa.Ab
open Go Go.RowKit

theorem wrap64 {i : Int} (h0 : -9223372036854775808 ≤ i) (h1 : i ≤ 9223372036854775807) : IntKind.wrap .i64 i = i := by
  rw [IntKind.wrap_i64]; omega
theorem wrapu32 {i : Int} (h0 : 0 ≤ i) (h1 : i < 4294967296) : IntKind.wrap .u32 i = i := by
  rw [IntKind.wrap_u32]; omega
theorem wf_u32 {x : Int} (h : (Lit.int .u32 x).wf = true) : 0 ≤ x ∧ x < 4294967296 := by
  simp only [Lit.wf, Bool.and_eq_true, decide_eq_true_eq] at h
  rw [show IntKind.u32.min = 0 from rfl, show IntKind.u32.max = 4294967295 from rfl] at h
  omega
set_option maxRecDepth 100000
def idxS (l : List Int) (t : Bool) (g : Int) (i : Int) : ST :=
  ⟨RG.of 19 [(8, .int .i64 i), (7, .int .i64 l.length), (1, .int .u32 g), (0, .sl (numsA .u32 l) l.length t)], ⟨[], []⟩⟩
theorem index_c (m : Nat) (l : List Int) (t : Bool) (g : Int) (hl : l.length ≤ 4611686018427387900) : ∃ v, (∃ r : Int, v = .int .i64 r ∧ (0 ≤ r ↔ g ∈ l)) ∧ ∀ (from_ : FuncId) (h : H), evCall TE (m + 1) from_ (.fn 117 [] []) [.sl (numsA .u32 l) l.length t, .int .u32 g] h = some (.ret v, h) := by
  refine call_cleanP (fn := Try.f117) rfl Try.func117 rfl (fun _ => rfl) rfl rfl (Nat.le_of_ble_eq_true rfl) ?_
  conv => whnf
  refine ⟨l.length + 1, ?_, ?_⟩
  · show l.length + 1 ≤ 4611686018427387904
    omega
  · refine rounds_ind (idxS l t g) (fun i => 0 ≤ i ∧ i ≤ l.length ∧ g ∉ l.take i.toNat) (fun i => (l.length - i).toNat) ?_ _ 0 _ ⟨by omega, by omega, by simp⟩ (by omega) ?_
    · intro i m' hI ih
      conv => whnf
      cases h1 : decide (i < (l.length : Int)) with
      | false =>
        conv => whnf
        have h1 := of_decide_eq_false h1
        refine ⟨rfl, -1, rfl, ⟨by omega, fun hg => absurd ?_ hI.2.2⟩⟩
        rwa [List.take_of_length_le (by omega)]
      | true =>
        have h1 := of_decide_eq_true h1
        obtain ⟨x, hx⟩ : ∃ x, l[i.toNat]? = some x := ⟨_, List.getElem?_eq_getElem (by omega)⟩
        have hc : (numsA .u32 l)[i.toNat * 1]? = some (.int .u32 x) := by rw [Nat.mul_one, numsA, List.getElem?_map, hx]; rfl
        conv => whnf
        refine runK_ret (ev_indexSl (sz := 1) rfl rfl rfl rfl (by omega) h1) ?_
        conv => whnf
        refine runK_ret (ev_loadV (z := 1) rfl rfl rfl hc) ?_
        conv => whnf
        cases h2 : g == x with
        | true =>
          conv => whnf
          have h2 : g = x := by simpa using h2
          exact ⟨rfl, i, rfl, ⟨fun _ => h2 ▸ List.mem_of_getElem? hx, fun _ => hI.1⟩⟩
        | false =>
          conv => whnf
          have h2 : g ≠ x := by simpa using h2
          have hw : IntKind.wrap .i64 (i + 1) = i + 1 := wrap64 (by omega) (by omega)
          refine ih (IntKind.wrap .i64 (i + 1)) _ ?_ ?_ (by kernel_rfl)
          · rw [hw]
            refine ⟨by omega, by omega, ?_⟩
            rw [show (i + 1).toNat = i.toNat + 1 by omega, List.take_add_one, hx]
            simp [hI.2.2, h2]
          · rw [hw]; omega
    · kernel_rfl
theorem index_nil (m : Nat) (from_ : FuncId) (h : H) (g : Int) : evCall TE (m + 1) from_ (.fn 117 [] []) [.sl0, .int .u32 g] h = some (.ret (.int .i64 (-1)), h) := by
  refine call_clean (fn := Try.f117) rfl Try.func117 rfl rfl rfl rfl rfl (Nat.le_of_ble_eq_true rfl) ?_
  conv => whnf
  refine ⟨3, Nat.le_of_ble_eq_true rfl, ?_⟩
  conv => whnf
theorem contains_c (m : Nat) (from_ : FuncId) (h : H) (v : AV) (l : List Int) (g : Int) (hv : rowOk .u32 v l) (hl : l.length ≤ 4611686018427387900) : evCall TE (m + 2) from_ (.fn 100 [] []) [v, .int .u32 g] h = some (.ret (.bool (decide (g ∈ l))), h) := by
  rcases hv with ⟨rfl, rfl⟩ | ⟨t, rfl⟩
  · refine call_clean (fn := Try.f100) rfl Try.func100 rfl rfl rfl rfl rfl (Nat.le_of_ble_eq_true rfl) ?_
    conv => whnf
    refine ⟨_, _, index_nil m _ _ g, ?_⟩
    conv => whnf
    simp
  · refine call_clean (fn := Try.f100) rfl Try.func100 rfl rfl rfl rfl rfl (Nat.le_of_ble_eq_true rfl) ?_
    conv => whnf
    obtain ⟨_, ⟨r, rfl, hr⟩, hc⟩ := index_c m l t g hl
    refine ⟨_, _, hc _ _, ?_⟩
    conv => whnf
    congr 1
    exact decide_eq_decide.2 hr
/-- Who calls. -/
structure CredS where
  user : Int
  group : Int
  gs : AV
  l : List Int
def CredS.ok (c : CredS) : Prop := rowOk .u32 c.gs c.l ∧ c.l.length ≤ 4611686018427387900
def credA (c : CredS) : AV := .agg [.int .u32 c.user, .int .u32 c.group, c.gs]
def inS (c : CredS) (g : Int) : Bool := c.group == g || decide (g ∈ c.l)
set_option maxHeartbeats 1000000 in
theorem in_c (m : Nat) (from_ : FuncId) (h : H) (c : CredS) (g : Int) (hc : c.ok) : evCall TE (m + 3) from_ (.fn 77 [] []) [credA c, .int .u32 g] h = some (.ret (.bool (inS c g)), h) := by
  obtain ⟨u, gr, gs, l⟩ := c
  obtain ⟨h1, h2⟩ := hc
  unfold inS
  dsimp only at h1 h2 ⊢
  have key := fun (f : FuncId) (h : H) => contains_c (m := m) f h gs l g h1 h2
  rcases h1 with ⟨rfl, rfl⟩ | ⟨t, rfl⟩
  all_goals refine call_clean (fn := Try.f77) rfl Try.func77 rfl rfl rfl rfl rfl (Nat.le_of_ble_eq_true rfl) ?_
  all_goals conv => whnf
  all_goals cases h3 : gr == g
  all_goals conv => whnf
  all_goals first | rfl | refine ⟨_, _, key _ _, ?_⟩
  all_goals conv => whnf
  all_goals rfl
end Go.Proofs.Ytbebcbcnibfbhaa.Ab
