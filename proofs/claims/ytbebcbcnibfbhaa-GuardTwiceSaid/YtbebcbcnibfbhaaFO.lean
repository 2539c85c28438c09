import Derived.Test.YtbebcbcnibfbhaaF6
/- Over the engine: trees that come as arguments. -/
namespace Go.Proofs.Ytbebcbcnibfbhaa.Ab
open Go Go.RowKit

def timeTy : Ty := .seq [.int .u32, .int .u32]
def entryTy : Ty := .seq [.str, .int .i64, .int .u64]
def nodeTyL : List Ty := [.int .u32, .int .u32, .int .u32, .int .u32, .int .u32, .int .i64, timeTy, timeTy, timeTy, .sl 1 (.int .u8), .seq [.int .u8, .int .u8, .int .u8, .int .u8, .int .u8, .int .u8, .int .u8, .int .u8], .str, .sl 32 entryTy, .int .i64, .int .u64]
def nodeTy (B : Nat) : Ty := .sl B (.seq nodeTyL)
theorem rows_of {α : Type} (f : α → List AV) (P : α → Prop) : ∀ rows : List (List AV), (∀ r ∈ rows, ∃ x, r = f x ∧ P x) → ∃ l : List α, rows = l.map f ∧ ∀ x ∈ l, P x
  | [], _ => ⟨[], rfl, fun x h => by cases h⟩
  | r :: rows, h => by
    obtain ⟨x, hx, hp⟩ := h r (List.mem_cons_self ..)
    obtain ⟨l, hl, hP⟩ := rows_of f P rows fun r hr => h r (List.mem_cons_of_mem _ hr)
    exact ⟨x :: l, by rw [hx, hl]; rfl, fun y hy => by
      rcases List.mem_cons.1 hy with rfl | hy
      · exact hp
      · exact hP y hy⟩
theorem wf_u8 {x : Int} (h : (Lit.int .u8 x).wf = true) : 0 ≤ x ∧ x < 256 := by
  simp only [Lit.wf, Bool.and_eq_true, decide_eq_true_eq] at h
  rw [show IntKind.u8.min = 0 from rfl, show IntKind.u8.max = 255 from rfl] at h
  omega
theorem wf_i64 {x : Int} (h : (Lit.int .i64 x).wf = true) : -9223372036854775808 ≤ x ∧ x < 9223372036854775808 := by
  simp only [Lit.wf, Bool.and_eq_true, decide_eq_true_eq] at h
  rw [show IntKind.i64.min = -9223372036854775808 from rfl, show IntKind.i64.max = 9223372036854775807 from rfl] at h
  omega
theorem wf_u64 {x : Int} (h : (Lit.int .u64 x).wf = true) : 0 ≤ x ∧ x < 18446744073709551616 := by
  simp only [Lit.wf, Bool.and_eq_true, decide_eq_true_eq] at h
  rw [show IntKind.u64.min = 0 from rfl, show IntKind.u64.max = 18446744073709551615 from rfl] at h
  omega
theorem nums_flat (k : IntKind) : ∀ l : List Int, (l.map fun n : Int => [AV.int k n]).flatten = numsA k l
  | [] => rfl
  | n :: l => by
    rw [List.map_cons, List.flatten_cons, nums_flat k l]
    rfl
theorem sh_row {k : IntKind} {B : Nat} {v : AV} (h : Sh (.sl B (.int k)) [v]) : ∃ l, rowOk k v l ∧ (∀ n ∈ l, (Lit.int k n).wf = true) ∧ l.length * B ≤ 140737488351232 := by
  unfold Sh at h
  rcases h with h | ⟨rows, t, h, hr, hB, _⟩
  · cases h
    refine ⟨[], .inl ⟨rfl, rfl⟩, ?_, Nat.le_trans (Nat.le_of_eq (Nat.zero_mul _)) (Nat.zero_le _)⟩
    intro n hn
    cases hn
  · cases h
    obtain ⟨l, rfl, hl⟩ := rows_of (fun n : Int => [AV.int k n]) (fun n => (Lit.int k n).wf = true) rows fun r hr' => by
      have := hr r hr'
      unfold Sh at this
      exact this
    refine ⟨l, .inr ⟨t, ?_⟩, hl, by simpa using hB⟩
    rw [nums_flat, List.length_map]
theorem sh_ents {v : AV} (h : Sh (.sl 32 entryTy) [v]) : ∃ l, entsOk v l ∧ (∀ e ∈ l, e.name.length ≤ 140737488351232 ∧ (-9223372036854775808 ≤ e.node ∧ e.node < 9223372036854775808) ∧ 0 ≤ e.cookie ∧ e.cookie < 18446744073709551616) ∧ l.length * 32 ≤ 140737488351232 := by
  unfold Sh at h
  rcases h with h | ⟨rows, t, h, hr, hB, _⟩
  · cases h
    refine ⟨[], .inl ⟨rfl, rfl⟩, ?_, Nat.le_trans (Nat.le_of_eq (Nat.zero_mul _)) (Nat.zero_le _)⟩
    intro n hn
    cases hn
  · cases h
    obtain ⟨l, rfl, hl⟩ := rows_of entryA (fun e => e.name.length ≤ 140737488351232 ∧ (-9223372036854775808 ≤ e.node ∧ e.node < 9223372036854775808) ∧ 0 ≤ e.cookie ∧ e.cookie < 18446744073709551616) rows fun r hr' => by
      have := hr r hr'
      simp only [entryTy, Sh, ShL] at this
      obtain ⟨_, _, rfl, ⟨s, rfl, hs⟩, _, _, rfl, ⟨n, rfl, hn⟩, _, _, rfl, ⟨c, rfl, hc⟩, rfl⟩ := this
      exact ⟨⟨s, n, c⟩, rfl, hs, wf_i64 hn, wf_u64 hc⟩
    exact ⟨l, .inr ⟨t, by rw [List.length_map]; rfl⟩, hl, by simpa using hB⟩
theorem sh_node {r : List AV} (h : Sh (.seq nodeTyL) r) : ∃ x : NodeS, r = nodeA x ∧ x.ok ∧ x.rng := by
  unfold Sh nodeTyL timeTy at h
  simp only [ShL] at h
  obtain ⟨_, _, rfl, a0, _, _, rfl, a1, _, _, rfl, a2, _, _, rfl, a3, _, _, rfl, a4, _, _, rfl, a5, _, _, rfl, a6, _, _, rfl, a7, _, _, rfl, a8, _, _, rfl, a9, _, _, rfl, a10, _, _, rfl, a11, _, _, rfl, a12, _, _, rfl, a13, _, _, rfl, a14, rfl⟩ := h
  have row1 : ∀ {B : Nat} {e : Ty} {as_ : List AV}, Sh (.sl B e) as_ → ∃ v, as_ = [v] := by
    intro B e as_ h
    unfold Sh at h
    rcases h with rfl | ⟨_, _, rfl, _⟩ <;> exact ⟨_, rfl⟩
  obtain ⟨da, rfl⟩ := row1 a9
  obtain ⟨ls, rfl⟩ := row1 a12
  obtain ⟨by_, hb1, hb2, hb3⟩ := sh_row a9
  obtain ⟨es, he1, he2, he3⟩ := sh_ents a12
  simp only [Sh, ShL] at a0 a1 a2 a3 a4 a5 a6 a7 a8 a10 a11 a13 a14
  obtain ⟨kd, rfl, w0⟩ := a0
  obtain ⟨ge, rfl, w1⟩ := a1
  obtain ⟨mo, rfl, w2⟩ := a2
  obtain ⟨us, rfl, w3⟩ := a3
  obtain ⟨gr, rfl, w4⟩ := a4
  obtain ⟨li, rfl, w5⟩ := a5
  obtain ⟨_, _, rfl, ⟨rs, rfl, w6⟩, _, _, rfl, ⟨rn, rfl, w7⟩, rfl⟩ := a6
  obtain ⟨_, _, rfl, ⟨ws, rfl, w8⟩, _, _, rfl, ⟨wn, rfl, w9⟩, rfl⟩ := a7
  obtain ⟨_, _, rfl, ⟨ts, rfl, w10⟩, _, _, rfl, ⟨tn, rfl, w11⟩, rfl⟩ := a8
  obtain ⟨_, _, rfl, ⟨v0, rfl, x0⟩, _, _, rfl, ⟨v1, rfl, x1⟩, _, _, rfl, ⟨v2, rfl, x2⟩, _, _, rfl, ⟨v3, rfl, x3⟩, _, _, rfl, ⟨v4, rfl, x4⟩, _, _, rfl, ⟨v5, rfl, x5⟩, _, _, rfl, ⟨v6, rfl, x6⟩, _, _, rfl, ⟨v7, rfl, x7⟩, rfl⟩ := a10
  obtain ⟨ta, rfl, w12⟩ := a11
  obtain ⟨pa, rfl, w13⟩ := a13
  obtain ⟨nx, rfl, w14⟩ := a14
  refine ⟨⟨kd, ge, mo, us, gr, li, rs, rn, ws, wn, ts, tn, da, by_, fun i => match i with | 0 => v0 | 1 => v1 | 2 => v2 | 3 => v3 | 4 => v4 | 5 => v5 | 6 => v6 | _ => v7, ta, ls, es, pa, nx⟩, rfl, ⟨hb1, he1⟩, ?_⟩
  refine ⟨wf_u32 w0, wf_u32 w1, wf_u32 w2, wf_u32 w3, wf_u32 w4, wf_i64 w5, wf_u32 w6, wf_u32 w7, wf_u32 w8, wf_u32 w9, wf_u32 w10, wf_u32 w11, fun b hb => wf_u8 (hb2 b hb), by simpa using hb3, fun i hi => ?_, w12, he2, he3, wf_i64 w13, wf_u64 w14⟩
  obtain rfl | rfl | rfl | rfl | rfl | rfl | rfl | rfl : i = 0 ∨ i = 1 ∨ i = 2 ∨ i = 3 ∨ i = 4 ∨ i = 5 ∨ i = 6 ∨ i = 7 := by omega
  · exact wf_u8 x0
  · exact wf_u8 x1
  · exact wf_u8 x2
  · exact wf_u8 x3
  · exact wf_u8 x4
  · exact wf_u8 x5
  · exact wf_u8 x6
  · exact wf_u8 x7
theorem sh_nodes {B : Nat} {v : AV} (hB : 0 < B) (h : Sh (nodeTy B) [v]) : ∃ ns, nodesOk v ns ∧ (∀ x ∈ ns, x.ok ∧ x.rng) ∧ ns.length ≤ 140737488351232 := by
  unfold nodeTy Sh at h
  rcases h with h | ⟨rows, t, h, hr, hb, _⟩
  · cases h
    refine ⟨[], .inl ⟨rfl, rfl⟩, ?_, Nat.zero_le _⟩
    intro x hx
    cases hx
  · cases h
    obtain ⟨l, rfl, hl⟩ := rows_of nodeA (fun x => x.ok ∧ x.rng) rows fun r hr' => sh_node (hr r hr')
    refine ⟨l, .inr ⟨t, by rw [List.length_map]; rfl⟩, hl, ?_⟩
    rw [List.length_map] at hb
    exact Nat.le_trans (Nat.le_mul_of_pos_right _ hB) hb
def treeTyL (B : Nat) : List Ty := [nodeTy B, .int .u32]
theorem sh_tree {B : Nat} (hB : 0 < B) {r : List AV} (h : ShL (treeTyL B) r) : ∃ t : TreeS, r = [t.v, .int .u32 t.gen] ∧ t.ok := by
  unfold treeTyL at h
  simp only [ShL] at h
  obtain ⟨_, _, rfl, a0, _, _, rfl, a1, rfl⟩ := h
  obtain ⟨v, rfl⟩ : ∃ v, _ = [v] := by
    have := a0
    unfold nodeTy Sh at this
    rcases this with h | ⟨_, _, h, _⟩ <;> exact ⟨_, h⟩
  obtain ⟨ns, h1, h2, h3⟩ := sh_nodes hB a0
  unfold Sh at a1
  obtain ⟨g, rfl, hg⟩ := a1
  exact ⟨⟨v, ns, g⟩, rfl, h1, h2, h3, wf_u32 hg⟩
def credTyL : List Ty := [.int .u32, .int .u32, .sl 4 (.int .u32)]
theorem sh_cred {r : List AV} (h : ShL credTyL r) : ∃ c : CredS, r = [.int .u32 c.user, .int .u32 c.group, c.gs] ∧ c.ok ∧ (0 ≤ c.user ∧ c.user < 4294967296) ∧ (0 ≤ c.group ∧ c.group < 4294967296) ∧ c.l.length * 4 ≤ 140737488351232 ∧ ∀ n ∈ c.l, 0 ≤ n ∧ n < 4294967296 := by
  unfold credTyL at h
  simp only [ShL] at h
  obtain ⟨_, _, rfl, a0, _, _, rfl, a1, _, _, rfl, a2, rfl⟩ := h
  obtain ⟨v, rfl⟩ : ∃ v, _ = [v] := by
    have := a2
    unfold Sh at this
    rcases this with h | ⟨_, _, h, _⟩ <;> exact ⟨_, h⟩
  obtain ⟨l, h1, h2, h3⟩ := sh_row a2
  unfold Sh at a0 a1
  obtain ⟨u, rfl, hu⟩ := a0
  obtain ⟨g, rfl, hg⟩ := a1
  exact ⟨⟨u, g, v, l⟩, rfl, ⟨h1, by dsimp only; omega⟩, wf_u32 hu, wf_u32 hg, h3, fun n hn => wf_u32 (h2 n hn)⟩
end Go.Proofs.Ytbebcbcnibfbhaa.Ab
