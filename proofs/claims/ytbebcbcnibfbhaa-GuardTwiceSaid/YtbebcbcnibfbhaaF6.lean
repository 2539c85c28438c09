import Derived.Test.YtbebcbcnibfbhaaF3
/- Over the engine: how great a tree is. -/
namespace Go.Proofs.Ytbebcbcnibfbhaa.Ab
open Go Go.RowKit

def entsSize (l : List EntryS) : Int := l.length + (l.map fun e => (e.name.length : Int)).sum
def nodeSize (x : NodeS) : Int := 1 + x.target.length + x.bytes.length + entsSize x.ents
def nodesSize (l : List NodeS) : Int := l.length + (l.map nodeSize).sum
set_option maxRecDepth 100000
theorem sum_take {α : Type} (f : α → Int) {l : List α} {i : Nat} {x : α} (h : l[i]? = some x) : ((l.take (i + 1)).map f).sum = ((l.take i).map f).sum + f x := by
  rw [List.take_add_one, h]
  simp
theorem bytesSize_c (m : Nat) (from_ : FuncId) (h : H) (v : AV) (l : List Int) (hv : rowOk .u8 v l) : evCall TE (m + 1) from_ (.fn 115 [] []) [v] h = some (.ret (.int .i64 l.length), h) := by
  rcases hv with ⟨rfl, rfl⟩ | ⟨t, rfl⟩
  · skip
    kernel_rfl
  · skip
    kernel_rfl
def entsS (l : List EntryS) (t : Bool) (p : Int × Int) : ST :=
  ⟨RG.of 26 [(4, .int .i64 p.1), (3, .int .i64 p.2), (0, .sl (entriesA l) l.length t)], ⟨[], []⟩⟩
theorem entsSize_c (m : Nat) (v : AV) (l : List EntryS) (hv : entsOk v l) (hn : ∀ e ∈ l, e.name.length ≤ 140737488351232) (hl : l.length ≤ 140737488351232) :
    ∃ v', (∃ r : Int, v' = .int .i64 r ∧ 0 ≤ r ∧ r ≤ 281474976710656 ∧ (r ≤ 1048576 → r = entsSize l)) ∧ ∀ (from_ : FuncId) (h : H), evCall TE (m + 1) from_ (.fn 116 [] []) [v] h = some (.ret v', h) := by
  rcases hv with ⟨rfl, rfl⟩ | ⟨t, rfl⟩
  · refine ⟨_, ⟨0, rfl, by omega, by omega, fun _ => rfl⟩, fun from_ h => ?_⟩
    kernel_rfl
  · refine call_cleanP (fn := Try.f116) rfl Try.func116 rfl (fun _ => rfl) rfl rfl (Nat.le_of_ble_eq_true rfl) ?_
    conv => whnf
    refine ⟨l.length + 1, by show l.length + 1 ≤ 4611686018427387904; omega, ?_⟩
    refine rounds_ind (entsS l t) (fun p => 0 ≤ p.1 ∧ p.1 ≤ l.length ∧ 0 ≤ p.2 ∧ p.2 ≤ 281474976710656 ∧ (p.2 ≤ 1048576 → p.2 = l.length + ((l.take p.1.toNat).map fun e => (e.name.length : Int)).sum)) (fun p => (l.length - p.1).toNat) ?_ _ (0, l.length) _ ⟨by dsimp only; omega, by dsimp only; omega, by dsimp only; omega, by dsimp only; omega, fun _ => by simp⟩ (by simp) (by kernel_rfl)
    intro p m' hI ih
    obtain ⟨i, s⟩ := p
    dsimp only at hI ih ⊢
    conv => whnf
    cases h1 : decide (i < (l.length : Int)) with
    | false =>
      have h1 := of_decide_eq_false h1
      conv => whnf
      refine ⟨rfl, s, rfl, hI.2.2.1, hI.2.2.2.1, fun hs => ?_⟩
      rw [hI.2.2.2.2 hs, List.take_of_length_le (by omega)]
      rfl
    | true =>
      have h1 := of_decide_eq_true h1
      conv => whnf
      cases h2 : decide (s ≤ 1048576) with
      | false =>
        have h2 := of_decide_eq_false h2
        conv => whnf
        exact ⟨rfl, s, rfl, hI.2.2.1, hI.2.2.2.1, fun hs => absurd hs h2⟩
      | true =>
        have h2 := of_decide_eq_true h2
        obtain ⟨x, hx⟩ : ∃ x, l[i.toNat]? = some x := ⟨_, List.getElem?_eq_getElem (by omega)⟩
        have hxn := hn x (List.mem_of_getElem? hx)
        conv => whnf
        refine runK_ret (ev_indexSl (sz := 3) rfl rfl rfl rfl (by omega) h1) ?_
        conv => whnf
        refine runK_ret (ev_loadV (z := 1) rfl rfl rfl ((entriesA_cell hx 0 (by decide)).trans rfl)) ?_
        conv => whnf
        have hw : IntKind.wrap .i64 (i + 1) = i + 1 := wrap64 (by omega) (by omega)
        have hw2 : IntKind.wrap .i64 (s + (x.name.length : Int)) = s + x.name.length := wrap64 (by omega) (by omega)
        refine ih (IntKind.wrap .i64 (i + 1), IntKind.wrap .i64 (s + (x.name.length : Int))) _ ?_ ?_ (by kernel_rfl)
        · dsimp only
          rw [hw, hw2]
          refine ⟨by omega, by omega, by omega, by omega, fun _ => ?_⟩
          rw [show (i + 1).toNat = i.toNat + 1 by omega, sum_take _ hx, hI.2.2.2.2 h2]
          omega
        · dsimp only
          rw [hw]; omega
set_option maxHeartbeats 4000000 in
theorem nodeSize_c (m : Nat) (x : NodeS) (hok : x.ok) (hr : x.rng) :
    ∃ v', (∃ r : Int, v' = .int .i64 r ∧ 0 ≤ r ∧ r ≤ 1125899906842624 ∧ (r ≤ 1048576 → r = nodeSize x)) ∧ ∀ (from_ : FuncId) (h : H), evCall TE (m + 2) from_ (.fn 99 [] []) [.agg (nodeA x)] h = some (.ret v', h) := by
  have hb := fun (f : FuncId) (h : H) => bytesSize_c m f h x.data x.bytes hok.1
  have hbl := hr.bytesL
  have htl := hr.target
  have hel := hr.entsL
  obtain ⟨_, ⟨re, rfl, hr0, hr1, hr2⟩, he⟩ := entsSize_c m x.list x.ents hok.2 (fun e he => (hr.ents e he).1) (by omega)
  unfold nodeSize
  obtain ⟨kd, ge, mo, us, gr, li, rs, rn, ws, wn, ts, tn, da, by_, vf, ta, ls, es, pa, nx⟩ := x
  simp only [NodeS.ok, rowOk, entsOk] at hok
  obtain ⟨hd, hl⟩ := hok
  dsimp only at hb he hbl htl hel hr2 ⊢
  clear hr
  obtain ⟨bn, hbn⟩ : ∃ bn : Nat, by_.length = bn := ⟨_, rfl⟩
  rw [hbn] at hb hbl
  rw [hbn]
  clear hbn
  have hw0 : IntKind.wrap .i64 (1 + (ta.length : Int)) = 1 + ta.length := wrap64 (by omega) (by omega)
  have hw1 : IntKind.wrap .i64 (1 + (ta.length : Int) + (bn : Int)) = 1 + ta.length + bn := wrap64 (by omega) (by omega)
  have hw2 : IntKind.wrap .i64 (1 + (ta.length : Int) + (bn : Int) + re) = 1 + ta.length + bn + re := wrap64 (by omega) (by omega)
  rcases hd with ⟨rfl, rfl⟩ | ⟨dt, rfl⟩ <;> rcases hl with ⟨rfl, rfl⟩ | ⟨lt, rfl⟩
  all_goals
    refine call_cleanP (fn := Try.f99) rfl Try.func99 rfl (fun _ => rfl) rfl rfl (Nat.le_of_ble_eq_true rfl) ?_
    conv => whnf
    rw [hw0]
    cases h1 : decide (1 + (ta.length : Int) ≤ 1048576) with
    | false =>
      conv => whnf
      rw [h1]
      have h1 := of_decide_eq_false h1
      conv => whnf
      exact ⟨rfl, _, rfl, by omega, by omega, fun h => absurd h h1⟩
    | true =>
      have h1 := of_decide_eq_true h1
      conv => whnf
      refine ⟨_, _, hb _ _, ?_⟩
      conv => whnf
      rw [hw1]
      cases h2 : decide (1 + (ta.length : Int) + (bn : Int) ≤ 1048576) with
      | false =>
        have h2 := of_decide_eq_false h2
        conv => whnf
        exact ⟨rfl, _, rfl, by omega, by omega, fun h => absurd h h2⟩
      | true =>
        have h2 := of_decide_eq_true h2
        conv => whnf
        refine ⟨_, _, he _ _, ?_⟩
        conv => whnf
        rw [hw2]
        exact ⟨rfl, _, rfl, by omega, by omega, fun h => by rw [hr2 (by omega)]⟩
def nodesSS (l : List NodeS) (t : Bool) (p : Int × Int) : ST :=
  ⟨RG.of 25 [(4, .int .i64 p.1), (3, .int .i64 p.2), (0, .sl (nodesA l) l.length t)], ⟨[], []⟩⟩
set_option maxHeartbeats 1000000 in
theorem nodesSize_c (m : Nat) (v : AV) (l : List NodeS) (hv : nodesOk v l) (hok : ∀ x ∈ l, x.ok ∧ x.rng) (hl : l.length ≤ 140737488351232) :
    ∃ v', (∃ r : Int, v' = .int .i64 r ∧ 0 ≤ r ∧ r ≤ 2251799813685248 ∧ (r ≤ 1048576 → r = nodesSize l)) ∧ ∀ (from_ : FuncId) (h : H), evCall TE (m + 3) from_ (.fn 75 [] []) [v] h = some (.ret v', h) := by
  rcases hv with ⟨rfl, rfl⟩ | ⟨t, rfl⟩
  · refine ⟨_, ⟨0, rfl, by omega, by omega, fun _ => rfl⟩, fun from_ h => ?_⟩
    kernel_rfl
  · refine call_cleanP (fn := Try.f75) rfl Try.func75 rfl (fun _ => rfl) rfl rfl (Nat.le_of_ble_eq_true rfl) ?_
    conv => whnf
    refine ⟨l.length + 1, by show l.length + 1 ≤ 4611686018427387904; omega, ?_⟩
    refine rounds_ind (nodesSS l t) (fun p => 0 ≤ p.1 ∧ p.1 ≤ l.length ∧ 0 ≤ p.2 ∧ p.2 ≤ 2251799813685248 ∧ (p.2 ≤ 1048576 → p.2 = l.length + ((l.take p.1.toNat).map nodeSize).sum)) (fun p => (l.length - p.1).toNat) ?_ _ (0, l.length) _ ⟨by dsimp only; omega, by dsimp only; omega, by dsimp only; omega, by dsimp only; omega, fun _ => by simp⟩ (by simp) (by kernel_rfl)
    intro p m' hI ih
    obtain ⟨i, s⟩ := p
    dsimp only at hI ih ⊢
    conv => whnf
    cases h1 : decide (i < (l.length : Int)) with
    | false =>
      have h1 := of_decide_eq_false h1
      conv => whnf
      refine ⟨rfl, s, rfl, hI.2.2.1, hI.2.2.2.1, fun hs => ?_⟩
      rw [hI.2.2.2.2 hs, List.take_of_length_le (by omega)]
      rfl
    | true =>
      have h1 := of_decide_eq_true h1
      conv => whnf
      cases h2 : decide (s ≤ 1048576) with
      | false =>
        have h2 := of_decide_eq_false h2
        conv => whnf
        exact ⟨rfl, s, rfl, hI.2.2.1, hI.2.2.2.1, fun hs => absurd hs h2⟩
      | true =>
        have h2 := of_decide_eq_true h2
        obtain ⟨x, hx⟩ : ∃ x, l[i.toNat]? = some x := ⟨_, List.getElem?_eq_getElem (by omega)⟩
        have hxm := List.mem_of_getElem? hx
        obtain ⟨_, ⟨r, rfl, hr0, hr1, hr2⟩, hc⟩ := nodeSize_c m x (hok x hxm).1 (hok x hxm).2
        conv => whnf
        refine runK_ret (ev_indexSl (sz := 25) rfl rfl rfl rfl (by omega) h1) ?_
        conv => whnf
        have hlen : i.toNat * 25 + 25 ≤ (nodesA l).length := by rw [nodesA_len]; omega
        refine runK_ret (ev_loadVA (z := 25) rfl rfl rfl hlen (nodesA_node hx)) ?_
        conv => whnf
        refine ⟨_, _, hc _ _, ?_⟩
        conv => whnf
        have hw : IntKind.wrap .i64 (i + 1) = i + 1 := wrap64 (by omega) (by omega)
        have hw2 : IntKind.wrap .i64 (s + r) = s + r := wrap64 (by omega) (by omega)
        refine ih (IntKind.wrap .i64 (i + 1), IntKind.wrap .i64 (s + r)) _ ?_ ?_ (by kernel_rfl)
        · dsimp only
          rw [hw, hw2]
          refine ⟨by omega, by omega, by omega, by omega, fun _ => ?_⟩
          rw [show (i + 1).toNat = i.toNat + 1 by omega, sum_take _ hx, hI.2.2.2.2 h2, hr2 (by omega)]
          omega
        · dsimp only
          rw [hw]; omega
def treeSize (t : TreeS) : Int := 1 + nodesSize t.ns
theorem treeSize_c (m : Nat) (t : TreeS) (ht : t.ok) :
    ∃ v', (∃ r : Int, v' = .int .i64 r ∧ 0 ≤ r ∧ (r ≤ 1048576 → r = treeSize t)) ∧ ∀ (from_ : FuncId) (h : H), evCall TE (m + 4) from_ (.fn 32 [] []) [treeA t] h = some (.ret v', h) := by
  obtain ⟨_, ⟨r, rfl, hr0, hr1, hr2⟩, hc⟩ := nodesSize_c m t.v t.ns ht.v ht.ns ht.len
  have hv := ht.v
  obtain ⟨v, ns, gen⟩ := t
  dsimp only at hv hc hr2
  have hw : IntKind.wrap .i64 (1 + r) = 1 + r := wrap64 (by omega) (by omega)
  rcases hv with ⟨rfl, rfl⟩ | ⟨t, rfl⟩
  all_goals
    refine call_cleanP (fn := Try.f32) rfl Try.func32 rfl (fun _ => rfl) rfl rfl (Nat.le_of_ble_eq_true rfl) ?_
    conv => whnf
    refine ⟨_, _, hc _ _, ?_⟩
    conv => whnf
    rw [hw]
    exact ⟨rfl, _, rfl, by omega, fun h => by rw [hr2 (by omega)]; rfl⟩
end Go.Proofs.Ytbebcbcnibfbhaa.Ab
