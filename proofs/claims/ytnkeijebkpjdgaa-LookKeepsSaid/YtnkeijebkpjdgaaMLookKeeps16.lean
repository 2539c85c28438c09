import Derived.Test.YtnkeijebkpjdgaaMLookKeeps15
set_option linter.unusedVariables false
set_option linter.unusedSimpArgs false
/- Over the engine: are two trees alike? -/
namespace Go.Proofs.Ytnkeijebkpjdgaa.Ab
open Go Go.RowKit

def allSame {α : Type} (f : α → α → Bool) : List α → List α → Bool
  | [], [] => true
  | a :: x, b :: y => f a b && allSame f x y
  | _, _ => false
theorem allSame_len {α : Type} {f : α → α → Bool} : ∀ {x y : List α}, allSame f x y = true → x.length = y.length
  | [], [], _ => rfl
  | [], _ :: _, h => by simp [allSame] at h
  | _ :: _, [], h => by simp [allSame] at h
  | a :: x, b :: y, h => by
    simp only [allSame, Bool.and_eq_true] at h
    simp [allSame_len h.2]
theorem allSame_ne {α : Type} {f : α → α → Bool} {x y : List α} (h : x.length ≠ y.length) : allSame f x y = false := by
  cases hb : allSame f x y with
  | false => rfl
  | true => exact absurd (allSame_len hb) h
theorem allSame_drop {α : Type} {f : α → α → Bool} {x y : List α} {i : Nat} {a b : α} (ha : x[i]? = some a) (hb : y[i]? = some b) : allSame f (x.drop i) (y.drop i) = (f a b && allSame f (x.drop (i + 1)) (y.drop (i + 1))) := by
  obtain ⟨h1, rfl⟩ := List.getElem?_eq_some_iff.1 ha
  obtain ⟨h2, rfl⟩ := List.getElem?_eq_some_iff.1 hb
  rw [List.drop_eq_getElem_cons h1, List.drop_eq_getElem_cons h2, allSame]
theorem allSame_eq {α : Type} [DecidableEq α] : ∀ {x y : List α}, allSame (fun a b => decide (a = b)) x y = decide (x = y)
  | [], [] => rfl
  | [], _ :: _ => by simp [allSame]
  | _ :: _, [] => by simp [allSame]
  | a :: x, b :: y => by simp [allSame, allSame_eq (x := x) (y := y)]
def intEq (a b : Int) : Bool := decide (a = b)
theorem allSame_int {x y : List Int} : allSame intEq x y = decide (x = y) := allSame_eq
def entEq (a b : EntryS) : Bool := a.name == b.name && (a.node == b.node && (a.cookie == b.cookie && true))
theorem entEq_iff {a b : EntryS} : entEq a b = true ↔ a = b := by
  obtain ⟨n, k, c⟩ := a
  obtain ⟨n', k', c'⟩ := b
  simp [entEq]
set_option maxRecDepth 100000

def sameBytesS (l1 : List Int) (t1 : Bool) (l2 : List Int) (t2 : Bool) (i : Int) : ST :=
  ⟨RG.of 26 [(5, .int .i64 i), (1, .sl (numsA .u8 l2) l2.length t2), (0, .sl (numsA .u8 l1) l1.length t1)], ⟨[], []⟩⟩
set_option maxHeartbeats 2000000 in
theorem sameBytes_c (m : Nat) (from_ : FuncId) (h : H) (v1 v2 : AV) (l1 l2 : List Int) (hv1 : rowOk .u8 v1 l1) (hv2 : rowOk .u8 v2 l2) (hl : l1.length ≤ 140737488351232) : evCall TE (m + 1) from_ (.fn 29 [] []) [v1, v2] h = some (.ret (.bool (allSame intEq l1 l2)), h) := by
  rcases hv1 with ⟨rfl, rfl⟩ | ⟨t1, rfl⟩ <;> rcases hv2 with ⟨rfl, rfl⟩ | ⟨t2, rfl⟩
  · refine call_clean (fn := Try.f29) rfl Try.func29 rfl rfl rfl rfl rfl (Nat.le_of_ble_eq_true rfl) ?_
    conv => whnf
    refine ⟨2, Nat.le_of_ble_eq_true rfl, ?_⟩
    conv => whnf
    rfl
  · cases l2 with
    | nil =>
      refine call_clean (fn := Try.f29) rfl Try.func29 rfl rfl rfl rfl rfl (Nat.le_of_ble_eq_true rfl) ?_
      conv => whnf
      refine ⟨2, Nat.le_of_ble_eq_true rfl, ?_⟩
      conv => whnf
      rfl
    | cons y l2 =>
      refine call_clean (fn := Try.f29) rfl Try.func29 rfl rfl rfl rfl rfl (Nat.le_of_ble_eq_true rfl) ?_
      conv => whnf
      rfl
  · cases l1 with
    | nil =>
      refine call_clean (fn := Try.f29) rfl Try.func29 rfl rfl rfl rfl rfl (Nat.le_of_ble_eq_true rfl) ?_
      conv => whnf
      refine ⟨2, Nat.le_of_ble_eq_true rfl, ?_⟩
      conv => whnf
      rfl
    | cons y l1 =>
      refine call_clean (fn := Try.f29) rfl Try.func29 rfl rfl rfl rfl rfl (Nat.le_of_ble_eq_true rfl) ?_
      conv => whnf
      rfl
  obtain ⟨r, hr⟩ : ∃ r, r = allSame intEq l1 l2 := ⟨_, rfl⟩
  rw [← hr]
  refine call_clean (fn := Try.f29) rfl Try.func29 rfl rfl rfl rfl rfl (Nat.le_of_ble_eq_true rfl) ?_
  conv => whnf
  cases hne : ((l1.length : Int) != (l2.length : Int)) with
  | true =>
    conv => whnf
    have hne : l1.length ≠ l2.length := by
      have : ¬ ((l1.length : Int) = (l2.length : Int)) := by simpa [bne] using hne
      omega
    rw [hr, allSame_ne hne]
  | false =>
    have hne : l1.length = l2.length := by
      have : ((l1.length : Int) = (l2.length : Int)) := by simpa [bne] using hne
      omega
    conv => whnf
    refine ⟨l1.length + 1, by show l1.length + 1 ≤ 4611686018427387904; omega, ?_⟩
    refine rounds_ind (sameBytesS l1 t1 l2 t2) (fun i => 0 ≤ i ∧ i ≤ l1.length ∧ r = allSame intEq (l1.drop i.toNat) (l2.drop i.toNat)) (fun i => (l1.length - i).toNat) ?_ _ 0 _ ⟨by omega, by omega, hr⟩ (by omega) (by kernel_rfl)
    intro i m' hI ih
    obtain ⟨hI0, hI1, hI2⟩ := hI
    conv => whnf
    cases h1 : decide (i < (l1.length : Int)) with
    | false =>
      have h1 := of_decide_eq_false h1
      conv => whnf
      rw [hI2, List.drop_eq_nil_of_le (by omega), List.drop_eq_nil_of_le (by omega)]
      rfl
    | true =>
      have h1 := of_decide_eq_true h1
      have h2 : i < (l2.length : Int) := by omega
      obtain ⟨x, hx⟩ : ∃ x, l1[i.toNat]? = some x := ⟨_, List.getElem?_eq_getElem (by omega)⟩
      obtain ⟨y, hy⟩ : ∃ y, l2[i.toNat]? = some y := ⟨_, List.getElem?_eq_getElem (by omega)⟩
      rw [allSame_drop hx hy] at hI2
      have hw : IntKind.wrap .i64 (i + 1) = i + 1 := wrap64 (by omega) (by omega)
      have hmu : (l1.length - IntKind.wrap .i64 (i + 1)).toNat < (l1.length - i).toNat := by rw [hw]; omega
      have hst : intEq x y = true → 0 ≤ IntKind.wrap .i64 (i + 1) ∧ IntKind.wrap .i64 (i + 1) ≤ l1.length ∧ r = allSame intEq (l1.drop (IntKind.wrap .i64 (i + 1)).toNat) (l2.drop (IntKind.wrap .i64 (i + 1)).toNat) := by
        intro he
        rw [show intEq x y = true from he, Bool.true_and] at hI2
        rw [hw, show (i + 1).toNat = i.toNat + 1 by omega]
        exact ⟨by omega, by omega, hI2⟩
      have hfa : intEq x y = false → r = false := by
        intro he
        rw [hI2, show intEq x y = false from he]
        rfl
      have hc1 : (numsA .u8 l1)[i.toNat * 1]? = some (.int .u8 x) := by rw [Nat.mul_one, numsA, List.getElem?_map, hx]; rfl
      have hc2 : (numsA .u8 l2)[i.toNat * 1]? = some (.int .u8 y) := by rw [Nat.mul_one, numsA, List.getElem?_map, hy]; rfl
      conv => whnf
      (refine runK_ret (ev_indexSl (cells := numsA .u8 l1) (sz := 1) rfl rfl rfl rfl hI0 h1) ?_)
      conv => whnf
      (refine runK_ret (ev_loadV (z := 1) rfl rfl rfl hc1) ?_)
      conv => whnf
      (refine runK_ret (ev_indexSl (cells := numsA .u8 l2) (sz := 1) rfl rfl rfl rfl hI0 h2) ?_)
      conv => whnf
      (refine runK_ret (ev_loadV (z := 1) rfl rfl rfl hc2) ?_)
      conv => whnf
      (refine ⟨by kernel_rfl, ?_⟩)
      conv => whnf
      cases z0 : x != y
      · conv => whnf
        (exact ih (IntKind.wrap .i64 (i + 1)) _ (hst (by have : (x != y) = false := ‹_›; simpa [bne, intEq] using this)) hmu (by kernel_rfl))
      · conv => whnf
        (rw [hfa (by have : (x != y) = true := ‹_›; simpa [bne, intEq] using this)])

def sameEntsS (l1 : List EntryS) (t1 : Bool) (l2 : List EntryS) (t2 : Bool) (i : Int) : ST :=
  ⟨RG.of 26 [(5, .int .i64 i), (1, .sl (entriesA l2) l2.length t2), (0, .sl (entriesA l1) l1.length t1)], ⟨[], []⟩⟩
set_option maxHeartbeats 2000000 in
theorem sameEnts_c (m : Nat) (from_ : FuncId) (h : H) (v1 v2 : AV) (l1 l2 : List EntryS) (hv1 : entsOk v1 l1) (hv2 : entsOk v2 l2) (hl : l1.length ≤ 140737488351232) : evCall TE (m + 1) from_ (.fn 34 [] []) [v1, v2] h = some (.ret (.bool (allSame entEq l1 l2)), h) := by
  rcases hv1 with ⟨rfl, rfl⟩ | ⟨t1, rfl⟩ <;> rcases hv2 with ⟨rfl, rfl⟩ | ⟨t2, rfl⟩
  · refine call_clean (fn := Try.f34) rfl Try.func34 rfl rfl rfl rfl rfl (Nat.le_of_ble_eq_true rfl) ?_
    conv => whnf
    refine ⟨2, Nat.le_of_ble_eq_true rfl, ?_⟩
    conv => whnf
    rfl
  · cases l2 with
    | nil =>
      refine call_clean (fn := Try.f34) rfl Try.func34 rfl rfl rfl rfl rfl (Nat.le_of_ble_eq_true rfl) ?_
      conv => whnf
      refine ⟨2, Nat.le_of_ble_eq_true rfl, ?_⟩
      conv => whnf
      rfl
    | cons y l2 =>
      refine call_clean (fn := Try.f34) rfl Try.func34 rfl rfl rfl rfl rfl (Nat.le_of_ble_eq_true rfl) ?_
      conv => whnf
      rfl
  · cases l1 with
    | nil =>
      refine call_clean (fn := Try.f34) rfl Try.func34 rfl rfl rfl rfl rfl (Nat.le_of_ble_eq_true rfl) ?_
      conv => whnf
      refine ⟨2, Nat.le_of_ble_eq_true rfl, ?_⟩
      conv => whnf
      rfl
    | cons y l1 =>
      refine call_clean (fn := Try.f34) rfl Try.func34 rfl rfl rfl rfl rfl (Nat.le_of_ble_eq_true rfl) ?_
      conv => whnf
      rfl
  obtain ⟨r, hr⟩ : ∃ r, r = allSame entEq l1 l2 := ⟨_, rfl⟩
  rw [← hr]
  refine call_clean (fn := Try.f34) rfl Try.func34 rfl rfl rfl rfl rfl (Nat.le_of_ble_eq_true rfl) ?_
  conv => whnf
  cases hne : ((l1.length : Int) != (l2.length : Int)) with
  | true =>
    conv => whnf
    have hne : l1.length ≠ l2.length := by
      have : ¬ ((l1.length : Int) = (l2.length : Int)) := by simpa [bne] using hne
      omega
    rw [hr, allSame_ne hne]
  | false =>
    have hne : l1.length = l2.length := by
      have : ((l1.length : Int) = (l2.length : Int)) := by simpa [bne] using hne
      omega
    conv => whnf
    refine ⟨l1.length + 1, by show l1.length + 1 ≤ 4611686018427387904; omega, ?_⟩
    refine rounds_ind (sameEntsS l1 t1 l2 t2) (fun i => 0 ≤ i ∧ i ≤ l1.length ∧ r = allSame entEq (l1.drop i.toNat) (l2.drop i.toNat)) (fun i => (l1.length - i).toNat) ?_ _ 0 _ ⟨by omega, by omega, hr⟩ (by omega) (by kernel_rfl)
    intro i m' hI ih
    obtain ⟨hI0, hI1, hI2⟩ := hI
    conv => whnf
    cases h1 : decide (i < (l1.length : Int)) with
    | false =>
      have h1 := of_decide_eq_false h1
      conv => whnf
      rw [hI2, List.drop_eq_nil_of_le (by omega), List.drop_eq_nil_of_le (by omega)]
      rfl
    | true =>
      have h1 := of_decide_eq_true h1
      have h2 : i < (l2.length : Int) := by omega
      obtain ⟨x, hx⟩ : ∃ x, l1[i.toNat]? = some x := ⟨_, List.getElem?_eq_getElem (by omega)⟩
      obtain ⟨y, hy⟩ : ∃ y, l2[i.toNat]? = some y := ⟨_, List.getElem?_eq_getElem (by omega)⟩
      rw [allSame_drop hx hy] at hI2
      have hw : IntKind.wrap .i64 (i + 1) = i + 1 := wrap64 (by omega) (by omega)
      have hmu : (l1.length - IntKind.wrap .i64 (i + 1)).toNat < (l1.length - i).toNat := by rw [hw]; omega
      have hst : entEq x y = true → 0 ≤ IntKind.wrap .i64 (i + 1) ∧ IntKind.wrap .i64 (i + 1) ≤ l1.length ∧ r = allSame entEq (l1.drop (IntKind.wrap .i64 (i + 1)).toNat) (l2.drop (IntKind.wrap .i64 (i + 1)).toNat) := by
        intro he
        rw [show entEq x y = true from he, Bool.true_and] at hI2
        rw [hw, show (i + 1).toNat = i.toNat + 1 by omega]
        exact ⟨by omega, by omega, hI2⟩
      have hfa : entEq x y = false → r = false := by
        intro he
        rw [hI2, show entEq x y = false from he]
        rfl
      have hc1 : i.toNat * 3 + 3 ≤ (entriesA l1).length := by rw [entriesA_len]; omega
      have hc2 : i.toNat * 3 + 3 ≤ (entriesA l2).length := by rw [entriesA_len]; omega
      have hd1 := entriesA_entry hx
      have hd2 := entriesA_entry hy
      obtain ⟨xa, xb, xc⟩ := x
      obtain ⟨ya, yb, yc⟩ := y
      conv => whnf
      (refine runK_ret (ev_indexSl (cells := entriesA l1) (sz := 3) rfl rfl rfl rfl hI0 h1) ?_)
      conv => whnf
      (refine runK_ret (ev_loadVA (z := 3) rfl rfl rfl hc1 hd1) ?_)
      conv => whnf
      (refine runK_ret (ev_indexSl (cells := entriesA l2) (sz := 3) rfl rfl rfl rfl hI0 h2) ?_)
      conv => whnf
      (refine runK_ret (ev_loadVA (z := 3) rfl rfl rfl hc2 hd2) ?_)
      conv => whnf
      (refine ⟨by kernel_rfl, ?_⟩)
      conv => whnf
      cases z0 : xa == ya && (xb == yb && (xc == yc && true))
      · conv => whnf
        (rw [hfa (show (xa == ya && (xb == yb && (xc == yc && true))) = false from ‹_›)])
      · conv => whnf
        (exact ih (IntKind.wrap .i64 (i + 1)) _ (hst (show (xa == ya && (xb == yb && (xc == yc && true))) = true from ‹_›)) hmu (by kernel_rfl))

def verfEq (x y : NodeS) : Bool := x.verf 0 == y.verf 0 && (x.verf 1 == y.verf 1 && (x.verf 2 == y.verf 2 && (x.verf 3 == y.verf 3 && (x.verf 4 == y.verf 4 && (x.verf 5 == y.verf 5 && (x.verf 6 == y.verf 6 && (x.verf 7 == y.verf 7 && true)))))))
def nodeEq (x y : NodeS) : Bool :=
  x.kind == y.kind && (x.gen == y.gen && (x.mode == y.mode && (x.user == y.user && (x.group == y.group && (x.links == y.links && ((x.rs == y.rs && (x.rn == y.rn && true)) && ((x.ws == y.ws && (x.wn == y.wn && true)) && ((x.ts == y.ts && (x.tn == y.tn && true)) &&
  (allSame intEq x.bytes y.bytes && (verfEq x y && (x.target == y.target && (allSame entEq x.ents y.ents && (x.parent == y.parent && x.next == y.next)))))))))))))
set_option maxHeartbeats 8000000 in
theorem sameNode_c (m : Nat) (from_ : FuncId) (h : H) (x y : NodeS) (hx : x.ok) (hy : y.ok) (hxl : x.bytes.length ≤ 140737488351232) (hxe : x.ents.length ≤ 140737488351232) : evCall TE (m + 2) from_ (.fn 11 [] []) [.agg (nodeA x), .agg (nodeA y)] h = some (.ret (.bool (nodeEq x y)), h) := by
  have c1 : ∀ (f : FuncId) (h : H), (evAll TE (m + 1)).1 f (.fn 29 [] []) [x.data, y.data] h = some (.ret (.bool (allSame intEq x.bytes y.bytes)), h) := fun f h => sameBytes_c m f h _ _ _ _ hx.1 hy.1 hxl
  have c2 : ∀ (f : FuncId) (h : H), (evAll TE (m + 1)).1 f (.fn 34 [] []) [x.list, y.list] h = some (.ret (.bool (allSame entEq x.ents y.ents)), h) := fun f h => sameEnts_c m f h _ _ _ _ hx.2 hy.2 hxe
  obtain ⟨r, hr⟩ : ∃ r, r = nodeEq x y := ⟨_, rfl⟩
  rw [← hr]
  unfold nodeEq at hr
  obtain ⟨qb, hqb⟩ : ∃ q, q = allSame intEq x.bytes y.bytes := ⟨_, rfl⟩
  obtain ⟨qe, hqe⟩ : ∃ q, q = allSame entEq x.ents y.ents := ⟨_, rfl⟩
  obtain ⟨qv, hqv⟩ : ∃ q, q = verfEq x y := ⟨_, rfl⟩
  rw [← hqb] at c1 hr
  rw [← hqe] at c2 hr
  rw [← hqv] at hr
  clear hqb hqe hxl hxe
  unfold verfEq at hqv
  obtain ⟨kd, ge, mo, us, ng, li, xrs, xrn, xws, xwn, ts, tn, da, by_, vf, ta, ls, es, pa, nx⟩ := x
  obtain ⟨kd', ge', mo', us', ng', li', xrs', xrn', xws', xwn', ts', tn', da', by_', vf', ta', ls', es', pa', nx'⟩ := y
  simp only [NodeS.ok, rowOk, entsOk] at hx hy
  obtain ⟨hd, hl⟩ := hx
  obtain ⟨hd', hl'⟩ := hy
  dsimp only at c1 c2 hr hqv
  rcases hd with ⟨rfl, rfl⟩ | ⟨dt, rfl⟩ <;> rcases hl with ⟨rfl, rfl⟩ | ⟨lt, rfl⟩ <;> rcases hd' with ⟨rfl, rfl⟩ | ⟨dt', rfl⟩ <;> rcases hl' with ⟨rfl, rfl⟩ | ⟨lt', rfl⟩
  all_goals refine call_clean (fn := Try.f11) rfl Try.func11 rfl rfl rfl rfl rfl (Nat.le_of_ble_eq_true rfl) ?_
  all_goals
    conv => whnf
    cases z0 : kd == kd'
    · conv => whnf
      (rw [hr]; simp only [*, Bool.true_and, Bool.and_true, Bool.false_and, Bool.and_false]; done)
    · conv => whnf
      cases z1 : ge == ge'
      · conv => whnf
        (rw [hr]; simp only [*, Bool.true_and, Bool.and_true, Bool.false_and, Bool.and_false]; done)
      · conv => whnf
        cases z2 : mo == mo'
        · conv => whnf
          (rw [hr]; simp only [*, Bool.true_and, Bool.and_true, Bool.false_and, Bool.and_false]; done)
        · conv => whnf
          cases z3 : us == us'
          · conv => whnf
            (rw [hr]; simp only [*, Bool.true_and, Bool.and_true, Bool.false_and, Bool.and_false]; done)
          · conv => whnf
            cases z4 : ng == ng'
            · conv => whnf
              (rw [hr]; simp only [*, Bool.true_and, Bool.and_true, Bool.false_and, Bool.and_false]; done)
            · conv => whnf
              cases z5 : li == li'
              · conv => whnf
                (rw [hr]; simp only [*, Bool.true_and, Bool.and_true, Bool.false_and, Bool.and_false]; done)
              · conv => whnf
                cases z6 : xrs == xrs' && (xrn == xrn' && true)
                · conv => whnf
                  (rw [hr, hqv]; simp_all; done)
                · conv => whnf
                  cases z7 : xws == xws' && (xwn == xwn' && true)
                  · conv => whnf
                    (rw [hr, hqv]; simp_all; done)
                  · conv => whnf
                    cases z8 : ts == ts' && (tn == tn' && true)
                    · conv => whnf
                      (rw [hr, hqv]; simp_all; done)
                    · conv => whnf
                      with_reducible refine ⟨_, _, c1 _ _, ?_⟩
                      conv => whnf
                      cases qb
                      · conv => whnf
                        (rw [hr]; simp only [*, Bool.true_and, Bool.and_true, Bool.false_and, Bool.and_false]; done)
                      · conv => whnf
                        cases z10 : vf 0 == vf' 0 && (vf 1 == vf' 1 && (vf 2 == vf' 2 && (vf 3 == vf' 3 && (vf 4 == vf' 4 && (vf 5 == vf' 5 && (vf 6 == vf' 6 && (vf 7 == vf' 7 && true)))))))
                        · conv => whnf
                          (rw [hr, hqv]; simp_all; done)
                        · conv => whnf
                          cases z11 : ta == ta'
                          · conv => whnf
                            (rw [hr]; simp only [*, Bool.true_and, Bool.and_true, Bool.false_and, Bool.and_false]; done)
                          · conv => whnf
                            with_reducible refine ⟨_, _, c2 _ _, ?_⟩
                            conv => whnf
                            cases qe
                            · conv => whnf
                              (rw [hr]; simp only [*, Bool.true_and, Bool.and_true, Bool.false_and, Bool.and_false]; done)
                            · conv => whnf
                              cases z13 : pa == pa'
                              · conv => whnf
                                (rw [hr]; simp only [*, Bool.true_and, Bool.and_true, Bool.false_and, Bool.and_false]; done)
                              · conv => whnf
                                (rw [hr, hqv]; simp_all; done)

-- @begin f{wharfingerlaw01.SameNodes}@
def sameNodesS (l1 : List NodeS) (t1 : Bool) (l2 : List NodeS) (t2 : Bool) (i : Int) : ST :=
  ⟨RG.of 27 [(5, .int .i64 i), (1, .sl (nodesA l2) l2.length t2), (0, .sl (nodesA l1) l1.length t1)], ⟨[], []⟩⟩
end Go.Proofs.Ytnkeijebkpjdgaa.Ab
/- Over the engine: what is set of a node, in plain words; set twice is set once. -/
namespace Go.Proofs.Ytnkeijebkpjdgaa.Ab
open Go Go.RowKit

/-- A file's bytes, so many. -/
def sized (l : List Int) (n : Nat) : List Int := l.take n ++ List.replicate (n - l.length) 0
/-- The deeds, one after the other. -/
def turned (x : NodeS) (ss sn : Int) : NodeS := { x with ts := ss, tn := sn }
def deed1 (s : SetS) (ss sn : Int) (x : NodeS) : NodeS := if s.hm = true then { x with mode := s.mode, ts := ss, tn := sn } else x
def deed2 (s : SetS) (ss sn : Int) (x : NodeS) : NodeS := if s.hu = true then { x with user := s.user, ts := ss, tn := sn } else x
def deed3 (s : SetS) (ss sn : Int) (x : NodeS) : NodeS := if s.hg = true then { x with group := s.group, ts := ss, tn := sn } else x
def deed4 (s : SetS) (ss sn : Int) (d : AV) (x : NodeS) : NodeS := if s.hs = true then { x with data := d, bytes := sized x.bytes s.size.toNat, ws := ss, wn := sn, ts := ss, tn := sn } else x
def deed5 (s : SetS) (ss sn : Int) (x : NodeS) : NodeS := if (s.rh == 2) = true then { x with rs := s.rs, rn := s.rn, ts := ss, tn := sn } else if (s.rh == 1) = true then { x with rs := ss, rn := sn, ts := ss, tn := sn } else x
def deed6 (s : SetS) (ss sn : Int) (x : NodeS) : NodeS := if (s.wh == 2) = true then { x with ws := s.ws, wn := s.wn, ts := ss, tn := sn } else if (s.wh == 1) = true then { x with ws := ss, wn := sn, ts := ss, tn := sn } else x
def deeds (s : SetS) (ss sn : Int) (d : AV) (x : NodeS) : NodeS := deed6 s ss sn (deed5 s ss sn (deed4 s ss sn d (deed3 s ss sn (deed2 s ss sn (deed1 s ss sn x)))))
theorem verfEq_self (x y : NodeS) (h : x.verf = y.verf) : verfEq x y = true := by
  unfold verfEq
  rw [h]
  simp
theorem entsEq_self (l : List EntryS) : allSame entEq l l = true := by
  induction l with
  | nil => rfl
  | cons a l ih => rw [allSame, ih, Bool.and_true]; exact entEq_iff.2 rfl
theorem bytesEq_self (l : List Int) : allSame intEq l l = true := by
  rw [allSame_int]
  simp
/-- A node, but for how its rows are told. -/
def likeN (x y : NodeS) : Prop := x.kind = y.kind ∧ x.gen = y.gen ∧ x.mode = y.mode ∧ x.user = y.user ∧ x.group = y.group ∧ x.links = y.links ∧ x.rs = y.rs ∧ x.rn = y.rn ∧ x.ws = y.ws ∧ x.wn = y.wn ∧ x.ts = y.ts ∧ x.tn = y.tn ∧ x.bytes = y.bytes ∧ x.verf = y.verf ∧ x.target = y.target ∧ x.ents = y.ents ∧ x.parent = y.parent ∧ x.next = y.next
theorem nodeEq_of {x y : NodeS} (h : likeN x y) : nodeEq x y = true := by
  obtain ⟨h1, h2, h3, h4, h5, h6, h7, h8, h9, h10, h11, h12, h13, h14, h15, h16, h17, h18⟩ := h
  unfold nodeEq
  rw [h1, h2, h3, h4, h5, h6, h7, h8, h9, h10, h11, h12, h13, h15, h16, h17, h18, verfEq_self x y h14, entsEq_self, bytesEq_self]
  simp
section
variable (s : SetS) (ss sn : Int) (d : AV) (y : NodeS)
end
end Go.Proofs.Ytnkeijebkpjdgaa.Ab
/- Over the engine: the deeds that are done to a node. -/
namespace Go.Proofs.Ytnkeijebkpjdgaa.Ab
open Go Go.RowKit

set_option maxRecDepth 100000
/-- What the loops of some code go through, in order. -/
def loopsOf : Code → List Code
  | .loop b => [b]
  | .seq a b => loopsOf a ++ loopsOf b
  | .cond _ a b => loopsOf a ++ loopsOf b
  | .block _ b => loopsOf b
  | .scope b => loopsOf b
  | _ => []
def loopAt (fn : Func) (k : Nat) : Code := match fn.body with
  | some c => (loopsOf c).getD k .skip
  | none => .skip
section
variable (b0 b1 b4 b5 b6 b7 b8 b9 b10 b11 b12 b13 b14 b15 b16 b17 b18 b19 b20 : AB) (s : SetS) (ss sn : Int) (bo : Nat → Int) (n : Int)
end
theorem numsA_take (k : IntKind) (l : List Int) (n : Nat) : (numsA k l).take n = numsA k (l.take n) := by simp [numsA]
/-- So many deeds. -/
def deedK (s : SetS) (ss sn : Int) (d : AV) (k : Nat) (x : NodeS) : NodeS := match k with
  | 0 => x
  | 1 => deed1 s ss sn x
  | 2 => deed2 s ss sn (deed1 s ss sn x)
  | 3 => deed3 s ss sn (deed2 s ss sn (deed1 s ss sn x))
  | 4 => deed4 s ss sn d (deed3 s ss sn (deed2 s ss sn (deed1 s ss sn x)))
  | 5 => deed5 s ss sn (deed4 s ss sn d (deed3 s ss sn (deed2 s ss sn (deed1 s ss sn x))))
  | _ => deeds s ss sn d x

end Go.Proofs.Ytnkeijebkpjdgaa.Ab
/- Over the engine: what is set of a node. -/
namespace Go.Proofs.Ytnkeijebkpjdgaa.Ab
open Go Go.RowKit

set_option maxRecDepth 100000
def worldA (ss sn : Int) (bo : Nat → Int) : AV := .agg [.int .u32 ss, .int .u32 sn, .int .u8 (bo 0), .int .u8 (bo 1), .int .u8 (bo 2), .int .u8 (bo 3), .int .u8 (bo 4), .int .u8 (bo 5), .int .u8 (bo 6), .int .u8 (bo 7)]
theorem nodeA_clean {x : NodeS} (h1 : x.data.clean = true) (h2 : x.list.clean = true) : cleanL (nodeA x) = true := by
  unfold nodeA
  simp only [cleanL, h1, h2, AV.clean, Bool.and_self]
theorem nodesA_clean : ∀ {l : List NodeS}, (∀ x ∈ l, x.data.clean = true ∧ x.list.clean = true) → cleanL (nodesA l) = true
  | [], _ => rfl
  | x :: l, h => by
    show cleanL (nodeA x ++ nodesA l) = true
    rw [cleanL_app, nodeA_clean (h x (List.mem_cons_self ..)).1 (h x (List.mem_cons_self ..)).2, nodesA_clean fun y hy => h y (List.mem_cons_of_mem _ hy)]
    rfl
theorem row_clean {k : IntKind} {v : AV} {l : List Int} (h : rowOk k v l) : v.clean = true := by
  rcases h with ⟨rfl, _⟩ | ⟨t, rfl⟩ <;> rfl
theorem ents_clean {v : AV} {l : List EntryS} (h : entsOk v l) : v.clean = true := by
  rcases h with ⟨rfl, _⟩ | ⟨t, rfl⟩ <;> rfl
/-- What is set of a node's tree. -/
def setN (ns : List NodeS) (n : Int) (s : SetS) (ss sn : Int) (x : NodeS) : List NodeS := (ns.map cloneN).set n.toNat (deeds s ss sn (.sl (numsA .u8 (sized x.bytes s.size.toNat)) s.size.toNat true) (cloneN x))

end Go.Proofs.Ytnkeijebkpjdgaa.Ab
/- Over the engine: names and paths. -/
namespace Go.Proofs.Ytnkeijebkpjdgaa.Ab
open Go Go.RowKit

set_option maxRecDepth 100000
/-- Has a text a byte? -/
def has (s : List UInt8) (c : Int) : Bool := s.any fun b => ((b.toNat : Int) == c)
theorem has_drop {s : List UInt8} {i : Nat} {b : UInt8} {c : Int} (h : s[i]? = some b) : has (s.drop i) c = (((b.toNat : Int) == c) || has (s.drop (i + 1)) c) := by
  obtain ⟨h1, rfl⟩ := List.getElem?_eq_some_iff.1 h
  unfold has
  rw [List.drop_eq_getElem_cons h1, List.any_cons]
section
variable {P : Program} {flat : TypeId → Option (List Nat)} {nid : Nat} {ρ : Operand → AV}
theorem ev_indexStr {t : TypeId} {a b : Operand} {s : List UInt8} {k : IntKind} {i : Int} {x : UInt8} (ht : P.underlying t = some .string) (ha : ρ a = .str s) (hb : ρ b = .int k i) (h0 : 0 ≤ i) (hx : s[i.toNat]? = some x) : evOp P flat nid (.index t a b) ρ = .ret (.int .u8 x.toNat, .none) := by
  simp only [evOp, indexA, ha, hb, ht, hx, pur]
  rw [if_pos h0]
end
def hasS (s : List UInt8) (c : Int) (row : AV) (N : Int) (j : Int) (i : Int) : ST :=
  ⟨RG.of 27 [(15, .int .i64 i), (14, .int .i64 s.length), (9, .int .i64 j), (8, .int .i64 N), (7, row), (5, .int .u8 c), (0, .str s)], ⟨[], []⟩⟩
set_option maxHeartbeats 4000000 in
theorem breaks_two (m : Nat) (from_ : FuncId) (h : H) (s : List UInt8) (tt : Bool) (hl : s.length ≤ 140737488351232) : evCall TE (m + 1) from_ (.fn 79 [] [.vref [(.sl [.int .u8 0, .int .u8 47] 2 tt)] 0]) [.str s] h = some (.ret (.bool (has s 0 || (has s 47 || s == []))), h) := by
  obtain ⟨r, hr⟩ : ∃ r, r = (has s 0 || (has s 47 || s == [])) := ⟨_, rfl⟩
  rw [← hr]
  refine call_clean (fn := Try.f79) rfl Try.func79 rfl rfl rfl rfl rfl (Nat.le_of_ble_eq_true rfl) ?_
  conv => whnf
  (with_reducible refine ⟨(3 : Nat), ?_, ?_⟩; · exact Nat.le_of_ble_eq_true rfl)
  conv => whnf
  refine ⟨s.length + 1, by show s.length + 1 ≤ 4611686018427387904; omega, ?_⟩
  refine rounds_ind (hasS s 0 (.sl [.int .u8 0, .int .u8 47] 2 tt) 2 0) (fun i => 0 ≤ i ∧ i ≤ s.length ∧ has s 0 = has (s.drop i.toNat) 0) (fun i => (s.length - i).toNat) ?_ _ 0 _ ⟨by omega, by omega, rfl⟩ (by omega) (by kernel_rfl)
  intro i m' hI ih
  obtain ⟨hI0, hI1, hI2⟩ := hI
  conv => whnf
  cases h1 : decide (i < (s.length : Int)) with
  | false =>
    have h1 := of_decide_eq_false h1
    have hf0 : has s 0 = false := by rw [hI2, List.drop_eq_nil_of_le (by omega)]; rfl
    clear ih hI0 hI1 hI2 h1
    conv => whnf
    refine ⟨s.length + 1, by show s.length + 1 ≤ 4611686018427387904; omega, ?_⟩
    refine rounds_ind (hasS s 47 (.sl [.int .u8 0, .int .u8 47] 2 tt) 2 1) (fun i => 0 ≤ i ∧ i ≤ s.length ∧ has s 47 = has (s.drop i.toNat) 47) (fun i => (s.length - i).toNat) ?_ _ 0 _ ⟨by omega, by omega, rfl⟩ (by omega) (by kernel_rfl)
    intro i m' hI ih
    obtain ⟨hI0, hI1, hI2⟩ := hI
    conv => whnf
    cases h1 : decide (i < (s.length : Int)) with
    | false =>
      have h1 := of_decide_eq_false h1
      have hf1 : has s 47 = false := by rw [hI2, List.drop_eq_nil_of_le (by omega)]; rfl
      clear ih hI0 hI1 hI2 h1
      conv => whnf
      (rw [hr]; simp_all; done)
    | true =>
      have h1 := of_decide_eq_true h1
      obtain ⟨b, hb⟩ : ∃ b, s[i.toNat]? = some b := ⟨_, List.getElem?_eq_getElem (by omega)⟩
      rw [has_drop hb] at hI2
      have hw : IntKind.wrap .i64 (i + 1) = i + 1 := wrap64 (by omega) (by omega)
      have hmu : (s.length - IntKind.wrap .i64 (i + 1)).toNat < (s.length - i).toNat := by rw [hw]; omega
      have hst : ((b.toNat : Int) == 47) = false → 0 ≤ IntKind.wrap .i64 (i + 1) ∧ IntKind.wrap .i64 (i + 1) ≤ s.length ∧ has s 47 = has (s.drop (IntKind.wrap .i64 (i + 1)).toNat) 47 := by
        intro he
        rw [he, Bool.false_or] at hI2
        rw [hw, show (i + 1).toNat = i.toNat + 1 by omega]
        exact ⟨by omega, by omega, hI2⟩
      have hfa : ((b.toNat : Int) == 47) = true → r = true := by
        intro he
        rw [hr, hI2, he]
        simp
      conv => whnf
      (refine runK_ret (ev_indexStr rfl rfl rfl hI0 hb) ?_)
      conv => whnf
      cases z0 : ↑b.toNat == Int.ofNat 47
      · conv => whnf
        (exact ih (IntKind.wrap .i64 (i + 1)) _ (hst ‹_›) hmu (by kernel_rfl))
      · conv => whnf
        (rw [hfa ‹_›])
  | true =>
    have h1 := of_decide_eq_true h1
    obtain ⟨b, hb⟩ : ∃ b, s[i.toNat]? = some b := ⟨_, List.getElem?_eq_getElem (by omega)⟩
    rw [has_drop hb] at hI2
    have hw : IntKind.wrap .i64 (i + 1) = i + 1 := wrap64 (by omega) (by omega)
    have hmu : (s.length - IntKind.wrap .i64 (i + 1)).toNat < (s.length - i).toNat := by rw [hw]; omega
    have hst : ((b.toNat : Int) == 0) = false → 0 ≤ IntKind.wrap .i64 (i + 1) ∧ IntKind.wrap .i64 (i + 1) ≤ s.length ∧ has s 0 = has (s.drop (IntKind.wrap .i64 (i + 1)).toNat) 0 := by
      intro he
      rw [he, Bool.false_or] at hI2
      rw [hw, show (i + 1).toNat = i.toNat + 1 by omega]
      exact ⟨by omega, by omega, hI2⟩
    have hfa : ((b.toNat : Int) == 0) = true → r = true := by
      intro he
      rw [hr, hI2, he]
      simp
    conv => whnf
    (refine runK_ret (ev_indexStr rfl rfl rfl hI0 hb) ?_)
    conv => whnf
    cases z0 : ↑b.toNat == Int.ofNat 0
    · conv => whnf
      (exact ih (IntKind.wrap .i64 (i + 1)) _ (hst ‹_›) hmu (by kernel_rfl))
    · conv => whnf
      (rw [hfa ‹_›])
set_option maxHeartbeats 4000000 in
theorem breaks_one (m : Nat) (from_ : FuncId) (h : H) (s : List UInt8) (tt : Bool) (hl : s.length ≤ 140737488351232) : evCall TE (m + 1) from_ (.fn 79 [] [.vref [(.sl [.int .u8 0] 1 tt)] 0]) [.str s] h = some (.ret (.bool (has s 0 || s == [])), h) := by
  obtain ⟨r, hr⟩ : ∃ r, r = (has s 0 || s == []) := ⟨_, rfl⟩
  rw [← hr]
  refine call_clean (fn := Try.f79) rfl Try.func79 rfl rfl rfl rfl rfl (Nat.le_of_ble_eq_true rfl) ?_
  conv => whnf
  (with_reducible refine ⟨(2 : Nat), ?_, ?_⟩; · exact Nat.le_of_ble_eq_true rfl)
  conv => whnf
  refine ⟨s.length + 1, by show s.length + 1 ≤ 4611686018427387904; omega, ?_⟩
  refine rounds_ind (hasS s 0 (.sl [.int .u8 0] 1 tt) 1 0) (fun i => 0 ≤ i ∧ i ≤ s.length ∧ has s 0 = has (s.drop i.toNat) 0) (fun i => (s.length - i).toNat) ?_ _ 0 _ ⟨by omega, by omega, rfl⟩ (by omega) (by kernel_rfl)
  intro i m' hI ih
  obtain ⟨hI0, hI1, hI2⟩ := hI
  conv => whnf
  cases h1 : decide (i < (s.length : Int)) with
  | false =>
    have h1 := of_decide_eq_false h1
    have hf0 : has s 0 = false := by rw [hI2, List.drop_eq_nil_of_le (by omega)]; rfl
    clear ih hI0 hI1 hI2 h1
    conv => whnf
    (rw [hr]; simp_all; done)
  | true =>
    have h1 := of_decide_eq_true h1
    obtain ⟨b, hb⟩ : ∃ b, s[i.toNat]? = some b := ⟨_, List.getElem?_eq_getElem (by omega)⟩
    rw [has_drop hb] at hI2
    have hw : IntKind.wrap .i64 (i + 1) = i + 1 := wrap64 (by omega) (by omega)
    have hmu : (s.length - IntKind.wrap .i64 (i + 1)).toNat < (s.length - i).toNat := by rw [hw]; omega
    have hst : ((b.toNat : Int) == 0) = false → 0 ≤ IntKind.wrap .i64 (i + 1) ∧ IntKind.wrap .i64 (i + 1) ≤ s.length ∧ has s 0 = has (s.drop (IntKind.wrap .i64 (i + 1)).toNat) 0 := by
      intro he
      rw [he, Bool.false_or] at hI2
      rw [hw, show (i + 1).toNat = i.toNat + 1 by omega]
      exact ⟨by omega, by omega, hI2⟩
    have hfa : ((b.toNat : Int) == 0) = true → r = true := by
      intro he
      rw [hr, hI2, he]
      simp
    conv => whnf
    (refine runK_ret (ev_indexStr rfl rfl rfl hI0 hb) ?_)
    conv => whnf
    cases z0 : ↑b.toNat == Int.ofNat 0
    · conv => whnf
      (exact ih (IntKind.wrap .i64 (i + 1)) _ (hst ‹_›) hmu (by kernel_rfl))
    · conv => whnf
      (rw [hfa ‹_›])
end Go.Proofs.Ytnkeijebkpjdgaa.Ab
