import Derived.Test.YtbebcbcnibfbhaaF30
/- Over the engine: are two trees alike? -/
namespace Go.Proofs.Ytbebcbcnibfbhaa.Ab
open Go Go.RowKit

def allSame {α : Type} (f : α → α → Bool) : List α → List α → Bool
  | [], [] => true
  | a :: x, b :: y => f a b && allSame f x y
  | _, _ => false
theorem allSame_len {α : Type} {f : α → α → Bool} : ∀ {x y : List α}, allSame f x y = true → x.length = y.length
  | [], [], _ => rfl
  | [], _ :: _, h => by simp [allSame] at h
  | _ :: _, [], h => by simp [allSame] at h
  | a :: x, b :: y, h => by
    simp only [allSame, Bool.and_eq_true] at h
    simp [allSame_len h.2]
theorem allSame_ne {α : Type} {f : α → α → Bool} {x y : List α} (h : x.length ≠ y.length) : allSame f x y = false := by
  cases hb : allSame f x y with
  | false => rfl
  | true => exact absurd (allSame_len hb) h
theorem allSame_drop {α : Type} {f : α → α → Bool} {x y : List α} {i : Nat} {a b : α} (ha : x[i]? = some a) (hb : y[i]? = some b) : allSame f (x.drop i) (y.drop i) = (f a b && allSame f (x.drop (i + 1)) (y.drop (i + 1))) := by
  obtain ⟨h1, rfl⟩ := List.getElem?_eq_some_iff.1 ha
  obtain ⟨h2, rfl⟩ := List.getElem?_eq_some_iff.1 hb
  rw [List.drop_eq_getElem_cons h1, List.drop_eq_getElem_cons h2, allSame]
theorem allSame_eq {α : Type} [DecidableEq α] : ∀ {x y : List α}, allSame (fun a b => decide (a = b)) x y = decide (x = y)
  | [], [] => rfl
  | [], _ :: _ => by simp [allSame]
  | _ :: _, [] => by simp [allSame]
  | a :: x, b :: y => by simp [allSame, allSame_eq (x := x) (y := y)]
def intEq (a b : Int) : Bool := decide (a = b)
theorem allSame_int {x y : List Int} : allSame intEq x y = decide (x = y) := allSame_eq
def entEq (a b : EntryS) : Bool := a.name == b.name && (a.node == b.node && (a.cookie == b.cookie && true))
theorem entEq_iff {a b : EntryS} : entEq a b = true ↔ a = b := by
  obtain ⟨n, k, c⟩ := a
  obtain ⟨n', k', c'⟩ := b
  simp [entEq]
set_option maxRecDepth 100000

def sameBytesS (l1 : List Int) (t1 : Bool) (l2 : List Int) (t2 : Bool) (i : Int) : ST :=
  ⟨RG.of 26 [(5, .int .i64 i), (1, .sl (numsA .u8 l2) l2.length t2), (0, .sl (numsA .u8 l1) l1.length t1)], ⟨[], []⟩⟩
set_option maxHeartbeats 2000000 in
theorem sameBytes_c (m : Nat) (from_ : FuncId) (h : H) (v1 v2 : AV) (l1 l2 : List Int) (hv1 : rowOk .u8 v1 l1) (hv2 : rowOk .u8 v2 l2) (hl : l1.length ≤ 140737488351232) : evCall TE (m + 1) from_ (.fn 21 [] []) [v1, v2] h = some (.ret (.bool (allSame intEq l1 l2)), h) := by
  rcases hv1 with ⟨rfl, rfl⟩ | ⟨t1, rfl⟩ <;> rcases hv2 with ⟨rfl, rfl⟩ | ⟨t2, rfl⟩
  · refine call_clean (fn := Try.f21) rfl Try.func21 rfl rfl rfl rfl rfl (Nat.le_of_ble_eq_true rfl) ?_
    conv => whnf
    refine ⟨2, Nat.le_of_ble_eq_true rfl, ?_⟩
    conv => whnf
    rfl
  · cases l2 with
    | nil =>
      refine call_clean (fn := Try.f21) rfl Try.func21 rfl rfl rfl rfl rfl (Nat.le_of_ble_eq_true rfl) ?_
      conv => whnf
      refine ⟨2, Nat.le_of_ble_eq_true rfl, ?_⟩
      conv => whnf
      rfl
    | cons y l2 =>
      refine call_clean (fn := Try.f21) rfl Try.func21 rfl rfl rfl rfl rfl (Nat.le_of_ble_eq_true rfl) ?_
      conv => whnf
      rfl
  · cases l1 with
    | nil =>
      refine call_clean (fn := Try.f21) rfl Try.func21 rfl rfl rfl rfl rfl (Nat.le_of_ble_eq_true rfl) ?_
      conv => whnf
      refine ⟨2, Nat.le_of_ble_eq_true rfl, ?_⟩
      conv => whnf
      rfl
    | cons y l1 =>
      refine call_clean (fn := Try.f21) rfl Try.func21 rfl rfl rfl rfl rfl (Nat.le_of_ble_eq_true rfl) ?_
      conv => whnf
      rfl
  obtain ⟨r, hr⟩ : ∃ r, r = allSame intEq l1 l2 := ⟨_, rfl⟩
  rw [← hr]
  refine call_clean (fn := Try.f21) rfl Try.func21 rfl rfl rfl rfl rfl (Nat.le_of_ble_eq_true rfl) ?_
  conv => whnf
  cases hne : ((l1.length : Int) != (l2.length : Int)) with
  | true =>
    conv => whnf
    have hne : l1.length ≠ l2.length := by
      have : ¬ ((l1.length : Int) = (l2.length : Int)) := by simpa [bne] using hne
      omega
    rw [hr, allSame_ne hne]
  | false =>
    have hne : l1.length = l2.length := by
      have : ((l1.length : Int) = (l2.length : Int)) := by simpa [bne] using hne
      omega
    conv => whnf
    refine ⟨l1.length + 1, by show l1.length + 1 ≤ 4611686018427387904; omega, ?_⟩
    refine rounds_ind (sameBytesS l1 t1 l2 t2) (fun i => 0 ≤ i ∧ i ≤ l1.length ∧ r = allSame intEq (l1.drop i.toNat) (l2.drop i.toNat)) (fun i => (l1.length - i).toNat) ?_ _ 0 _ ⟨by omega, by omega, hr⟩ (by omega) (by kernel_rfl)
    intro i m' hI ih
    obtain ⟨hI0, hI1, hI2⟩ := hI
    conv => whnf
    cases h1 : decide (i < (l1.length : Int)) with
    | false =>
      have h1 := of_decide_eq_false h1
      conv => whnf
      rw [hI2, List.drop_eq_nil_of_le (by omega), List.drop_eq_nil_of_le (by omega)]
      rfl
    | true =>
      have h1 := of_decide_eq_true h1
      have h2 : i < (l2.length : Int) := by omega
      obtain ⟨x, hx⟩ : ∃ x, l1[i.toNat]? = some x := ⟨_, List.getElem?_eq_getElem (by omega)⟩
      obtain ⟨y, hy⟩ : ∃ y, l2[i.toNat]? = some y := ⟨_, List.getElem?_eq_getElem (by omega)⟩
      rw [allSame_drop hx hy] at hI2
      have hw : IntKind.wrap .i64 (i + 1) = i + 1 := wrap64 (by omega) (by omega)
      have hmu : (l1.length - IntKind.wrap .i64 (i + 1)).toNat < (l1.length - i).toNat := by rw [hw]; omega
      have hst : intEq x y = true → 0 ≤ IntKind.wrap .i64 (i + 1) ∧ IntKind.wrap .i64 (i + 1) ≤ l1.length ∧ r = allSame intEq (l1.drop (IntKind.wrap .i64 (i + 1)).toNat) (l2.drop (IntKind.wrap .i64 (i + 1)).toNat) := by
        intro he
        rw [show intEq x y = true from he, Bool.true_and] at hI2
        rw [hw, show (i + 1).toNat = i.toNat + 1 by omega]
        exact ⟨by omega, by omega, hI2⟩
      have hfa : intEq x y = false → r = false := by
        intro he
        rw [hI2, show intEq x y = false from he]
        rfl
      have hc1 : (numsA .u8 l1)[i.toNat * 1]? = some (.int .u8 x) := by rw [Nat.mul_one, numsA, List.getElem?_map, hx]; rfl
      have hc2 : (numsA .u8 l2)[i.toNat * 1]? = some (.int .u8 y) := by rw [Nat.mul_one, numsA, List.getElem?_map, hy]; rfl
      conv => whnf
      (refine runK_ret (ev_indexSl (cells := numsA .u8 l1) (sz := 1) rfl rfl rfl rfl hI0 h1) ?_)
      conv => whnf
      (refine runK_ret (ev_loadV (z := 1) rfl rfl rfl hc1) ?_)
      conv => whnf
      (refine runK_ret (ev_indexSl (cells := numsA .u8 l2) (sz := 1) rfl rfl rfl rfl hI0 h2) ?_)
      conv => whnf
      (refine runK_ret (ev_loadV (z := 1) rfl rfl rfl hc2) ?_)
      conv => whnf
      (refine ⟨by kernel_rfl, ?_⟩)
      conv => whnf
      cases z0 : x != y
      · conv => whnf
        (exact     ih (IntKind.wrap .i64 (i + 1)) _ (hst (by have : (x != y) = false := ‹_›; simpa [bne, intEq] using this)) hmu       (by kernel_rfl))
      · conv => whnf
        (rw [hfa (by have : (x != y) = true := ‹_›; simpa [bne, intEq] using this)])

def sameEntsS (l1 : List EntryS) (t1 : Bool) (l2 : List EntryS) (t2 : Bool) (i : Int) : ST :=
  ⟨RG.of 26 [(5, .int .i64 i), (1, .sl (entriesA l2) l2.length t2), (0, .sl (entriesA l1) l1.length t1)], ⟨[], []⟩⟩
set_option maxHeartbeats 2000000 in
theorem sameEnts_c (m : Nat) (from_ : FuncId) (h : H) (v1 v2 : AV) (l1 l2 : List EntryS) (hv1 : entsOk v1 l1) (hv2 : entsOk v2 l2) (hl : l1.length ≤ 140737488351232) : evCall TE (m + 1) from_ (.fn 74 [] []) [v1, v2] h = some (.ret (.bool (allSame entEq l1 l2)), h) := by
  rcases hv1 with ⟨rfl, rfl⟩ | ⟨t1, rfl⟩ <;> rcases hv2 with ⟨rfl, rfl⟩ | ⟨t2, rfl⟩
  · refine call_clean (fn := Try.f74) rfl Try.func74 rfl rfl rfl rfl rfl (Nat.le_of_ble_eq_true rfl) ?_
    conv => whnf
    refine ⟨2, Nat.le_of_ble_eq_true rfl, ?_⟩
    conv => whnf
    rfl
  · cases l2 with
    | nil =>
      refine call_clean (fn := Try.f74) rfl Try.func74 rfl rfl rfl rfl rfl (Nat.le_of_ble_eq_true rfl) ?_
      conv => whnf
      refine ⟨2, Nat.le_of_ble_eq_true rfl, ?_⟩
      conv => whnf
      rfl
    | cons y l2 =>
      refine call_clean (fn := Try.f74) rfl Try.func74 rfl rfl rfl rfl rfl (Nat.le_of_ble_eq_true rfl) ?_
      conv => whnf
      rfl
  · cases l1 with
    | nil =>
      refine call_clean (fn := Try.f74) rfl Try.func74 rfl rfl rfl rfl rfl (Nat.le_of_ble_eq_true rfl) ?_
      conv => whnf
      refine ⟨2, Nat.le_of_ble_eq_true rfl, ?_⟩
      conv => whnf
      rfl
    | cons y l1 =>
      refine call_clean (fn := Try.f74) rfl Try.func74 rfl rfl rfl rfl rfl (Nat.le_of_ble_eq_true rfl) ?_
      conv => whnf
      rfl
  obtain ⟨r, hr⟩ : ∃ r, r = allSame entEq l1 l2 := ⟨_, rfl⟩
  rw [← hr]
  refine call_clean (fn := Try.f74) rfl Try.func74 rfl rfl rfl rfl rfl (Nat.le_of_ble_eq_true rfl) ?_
  conv => whnf
  cases hne : ((l1.length : Int) != (l2.length : Int)) with
  | true =>
    conv => whnf
    have hne : l1.length ≠ l2.length := by
      have : ¬ ((l1.length : Int) = (l2.length : Int)) := by simpa [bne] using hne
      omega
    rw [hr, allSame_ne hne]
  | false =>
    have hne : l1.length = l2.length := by
      have : ((l1.length : Int) = (l2.length : Int)) := by simpa [bne] using hne
      omega
    conv => whnf
    refine ⟨l1.length + 1, by show l1.length + 1 ≤ 4611686018427387904; omega, ?_⟩
    refine rounds_ind (sameEntsS l1 t1 l2 t2) (fun i => 0 ≤ i ∧ i ≤ l1.length ∧ r = allSame entEq (l1.drop i.toNat) (l2.drop i.toNat)) (fun i => (l1.length - i).toNat) ?_ _ 0 _ ⟨by omega, by omega, hr⟩ (by omega) (by kernel_rfl)
    intro i m' hI ih
    obtain ⟨hI0, hI1, hI2⟩ := hI
    conv => whnf
    cases h1 : decide (i < (l1.length : Int)) with
    | false =>
      have h1 := of_decide_eq_false h1
      conv => whnf
      rw [hI2, List.drop_eq_nil_of_le (by omega), List.drop_eq_nil_of_le (by omega)]
      rfl
    | true =>
      have h1 := of_decide_eq_true h1
      have h2 : i < (l2.length : Int) := by omega
      obtain ⟨x, hx⟩ : ∃ x, l1[i.toNat]? = some x := ⟨_, List.getElem?_eq_getElem (by omega)⟩
      obtain ⟨y, hy⟩ : ∃ y, l2[i.toNat]? = some y := ⟨_, List.getElem?_eq_getElem (by omega)⟩
      rw [allSame_drop hx hy] at hI2
      have hw : IntKind.wrap .i64 (i + 1) = i + 1 := wrap64 (by omega) (by omega)
      have hmu : (l1.length - IntKind.wrap .i64 (i + 1)).toNat < (l1.length - i).toNat := by rw [hw]; omega
      have hst : entEq x y = true → 0 ≤ IntKind.wrap .i64 (i + 1) ∧ IntKind.wrap .i64 (i + 1) ≤ l1.length ∧ r = allSame entEq (l1.drop (IntKind.wrap .i64 (i + 1)).toNat) (l2.drop (IntKind.wrap .i64 (i + 1)).toNat) := by
        intro he
        rw [show entEq x y = true from he, Bool.true_and] at hI2
        rw [hw, show (i + 1).toNat = i.toNat + 1 by omega]
        exact ⟨by omega, by omega, hI2⟩
      have hfa : entEq x y = false → r = false := by
        intro he
        rw [hI2, show entEq x y = false from he]
        rfl
      have hc1 : i.toNat * 3 + 3 ≤ (entriesA l1).length := by rw [entriesA_len]; omega
      have hc2 : i.toNat * 3 + 3 ≤ (entriesA l2).length := by rw [entriesA_len]; omega
      have hd1 := entriesA_entry hx
      have hd2 := entriesA_entry hy
      obtain ⟨xa, xb, xc⟩ := x
      obtain ⟨ya, yb, yc⟩ := y
      conv => whnf
      (refine runK_ret (ev_indexSl (cells := entriesA l1) (sz := 3) rfl rfl rfl rfl hI0 h1) ?_)
      conv => whnf
      (refine runK_ret (ev_loadVA (z := 3) rfl rfl rfl hc1 hd1) ?_)
      conv => whnf
      (refine runK_ret (ev_indexSl (cells := entriesA l2) (sz := 3) rfl rfl rfl rfl hI0 h2) ?_)
      conv => whnf
      (refine runK_ret (ev_loadVA (z := 3) rfl rfl rfl hc2 hd2) ?_)
      conv => whnf
      (refine ⟨by kernel_rfl, ?_⟩)
      conv => whnf
      cases z0 : xa == ya && (xb == yb && (xc == yc && true))
      · conv => whnf
        (rw [hfa (show (xa == ya && (xb == yb && (xc == yc && true))) = false from ‹_›)])
      · conv => whnf
        (exact     ih (IntKind.wrap .i64 (i + 1)) _ (hst (show (xa == ya && (xb == yb && (xc == yc && true))) = true from ‹_›)) hmu       (by kernel_rfl))

def verfEq (x y : NodeS) : Bool := x.verf 0 == y.verf 0 && (x.verf 1 == y.verf 1 && (x.verf 2 == y.verf 2 && (x.verf 3 == y.verf 3 && (x.verf 4 == y.verf 4 && (x.verf 5 == y.verf 5 && (x.verf 6 == y.verf 6 && (x.verf 7 == y.verf 7 && true)))))))
def nodeEq (x y : NodeS) : Bool :=
  x.kind == y.kind && (x.gen == y.gen && (x.mode == y.mode && (x.user == y.user && (x.group == y.group && (x.links == y.links && ((x.rs == y.rs && (x.rn == y.rn && true)) && ((x.ws == y.ws && (x.wn == y.wn && true)) && ((x.ts == y.ts && (x.tn == y.tn && true)) &&
  (allSame intEq x.bytes y.bytes && (verfEq x y && (x.target == y.target && (allSame entEq x.ents y.ents && (x.parent == y.parent && x.next == y.next)))))))))))))
set_option maxHeartbeats 8000000 in
theorem sameNode_c (m : Nat) (from_ : FuncId) (h : H) (x y : NodeS) (hx : x.ok) (hy : y.ok) (hxl : x.bytes.length ≤ 140737488351232) (hxe : x.ents.length ≤ 140737488351232) : evCall TE (m + 2) from_ (.fn 30 [] []) [.agg (nodeA x), .agg (nodeA y)] h = some (.ret (.bool (nodeEq x y)), h) := by
  have c1 : ∀ (f : FuncId) (h : H), (evAll TE (m + 1)).1 f (.fn 21 [] []) [x.data, y.data] h = some (.ret (.bool (allSame intEq x.bytes y.bytes)), h) := fun f h => sameBytes_c m f h _ _ _ _ hx.1 hy.1 hxl
  have c2 : ∀ (f : FuncId) (h : H), (evAll TE (m + 1)).1 f (.fn 74 [] []) [x.list, y.list] h = some (.ret (.bool (allSame entEq x.ents y.ents)), h) := fun f h => sameEnts_c m f h _ _ _ _ hx.2 hy.2 hxe
  obtain ⟨r, hr⟩ : ∃ r, r = nodeEq x y := ⟨_, rfl⟩
  rw [← hr]
  unfold nodeEq at hr
  obtain ⟨qb, hqb⟩ : ∃ q, q = allSame intEq x.bytes y.bytes := ⟨_, rfl⟩
  obtain ⟨qe, hqe⟩ : ∃ q, q = allSame entEq x.ents y.ents := ⟨_, rfl⟩
  obtain ⟨qv, hqv⟩ : ∃ q, q = verfEq x y := ⟨_, rfl⟩
  rw [← hqb] at c1 hr
  rw [← hqe] at c2 hr
  rw [← hqv] at hr
  clear hqb hqe hxl hxe
  unfold verfEq at hqv
  obtain ⟨kd, ge, mo, us, ng, li, xrs, xrn, xws, xwn, ts, tn, da, by_, vf, ta, ls, es, pa, nx⟩ := x
  obtain ⟨kd', ge', mo', us', ng', li', xrs', xrn', xws', xwn', ts', tn', da', by_', vf', ta', ls', es', pa', nx'⟩ := y
  simp only [NodeS.ok, rowOk, entsOk] at hx hy
  obtain ⟨hd, hl⟩ := hx
  obtain ⟨hd', hl'⟩ := hy
  dsimp only at c1 c2 hr hqv
  rcases hd with ⟨rfl, rfl⟩ | ⟨dt, rfl⟩ <;> rcases hl with ⟨rfl, rfl⟩ | ⟨lt, rfl⟩ <;> rcases hd' with ⟨rfl, rfl⟩ | ⟨dt', rfl⟩ <;> rcases hl' with ⟨rfl, rfl⟩ | ⟨lt', rfl⟩
  all_goals refine call_clean (fn := Try.f30) rfl Try.func30 rfl rfl rfl rfl rfl (Nat.le_of_ble_eq_true rfl) ?_
  all_goals
    conv => whnf
    cases z0 : kd == kd'
    · conv => whnf
      (rw [hr]; simp only [*, Bool.true_and, Bool.and_true, Bool.false_and, Bool.and_false]; done)
    · conv => whnf
      cases z1 : ge == ge'
      · conv => whnf
        (rw [hr]; simp only [*, Bool.true_and, Bool.and_true, Bool.false_and, Bool.and_false]; done)
      · conv => whnf
        cases z2 : mo == mo'
        · conv => whnf
          (rw [hr]; simp only [*, Bool.true_and, Bool.and_true, Bool.false_and, Bool.and_false]; done)
        · conv => whnf
          cases z3 : us == us'
          · conv => whnf
            (rw [hr]; simp only [*, Bool.true_and, Bool.and_true, Bool.false_and, Bool.and_false]; done)
          · conv => whnf
            cases z4 : ng == ng'
            · conv => whnf
              (rw [hr]; simp only [*, Bool.true_and, Bool.and_true, Bool.false_and, Bool.and_false]; done)
            · conv => whnf
              cases z5 : li == li'
              · conv => whnf
                (rw [hr]; simp only [*, Bool.true_and, Bool.and_true, Bool.false_and, Bool.and_false]; done)
              · conv => whnf
                cases z6 : xrs == xrs' && (xrn == xrn' && true)
                · conv => whnf
                  (rw [hr, hqv]; simp_all; done)
                · conv => whnf
                  cases z7 : xws == xws' && (xwn == xwn' && true)
                  · conv => whnf
                    (rw [hr, hqv]; simp_all; done)
                  · conv => whnf
                    cases z8 : ts == ts' && (tn == tn' && true)
                    · conv => whnf
                      (rw [hr, hqv]; simp_all; done)
                    · conv => whnf
                      with_reducible refine ⟨_, _, c1 _ _, ?_⟩
                      conv => whnf
                      cases qb
                      · conv => whnf
                        (rw [hr]; simp only [*, Bool.true_and, Bool.and_true, Bool.false_and, Bool.and_false]; done)
                      · conv => whnf
                        cases z10 :   vf 0 == vf' 0 &&     (vf 1 == vf' 1 &&       (vf 2 == vf' 2 &&         (vf 3 == vf' 3 && (vf 4 == vf' 4 && (vf 5 == vf' 5 && (vf 6 == vf' 6 && (vf 7 == vf' 7 && true)))))))
                        · conv => whnf
                          (rw [hr, hqv]; simp_all; done)
                        · conv => whnf
                          cases z11 : ta == ta'
                          · conv => whnf
                            (rw [hr]; simp only [*, Bool.true_and, Bool.and_true, Bool.false_and, Bool.and_false]; done)
                          · conv => whnf
                            with_reducible refine ⟨_, _, c2 _ _, ?_⟩
                            conv => whnf
                            cases qe
                            · conv => whnf
                              (rw [hr]; simp only [*, Bool.true_and, Bool.and_true, Bool.false_and, Bool.and_false]; done)
                            · conv => whnf
                              cases z13 : pa == pa'
                              · conv => whnf
                                (rw [hr]; simp only [*, Bool.true_and, Bool.and_true, Bool.false_and, Bool.and_false]; done)
                              · conv => whnf
                                (rw [hr, hqv]; simp_all; done)

def sameNodesS (l1 : List NodeS) (t1 : Bool) (l2 : List NodeS) (t2 : Bool) (i : Int) : ST :=
  ⟨RG.of 27 [(5, .int .i64 i), (1, .sl (nodesA l2) l2.length t2), (0, .sl (nodesA l1) l1.length t1)], ⟨[], []⟩⟩
set_option maxHeartbeats 2000000 in
theorem sameNodes_c (m : Nat) (from_ : FuncId) (h : H) (v1 v2 : AV) (l1 l2 : List NodeS) (hv1 : nodesOk v1 l1) (hv2 : nodesOk v2 l2) (hl : l1.length ≤ 140737488351232) (hk1 : ∀ x ∈ l1, x.ok ∧ x.bytes.length ≤ 140737488351232 ∧ x.ents.length ≤ 140737488351232) (hk2 : ∀ x ∈ l2, x.ok) : evCall TE (m + 3) from_ (.fn 48 [] []) [v1, v2] h = some (.ret (.bool (allSame nodeEq l1 l2)), h) := by
  rcases hv1 with ⟨rfl, rfl⟩ | ⟨t1, rfl⟩ <;> rcases hv2 with ⟨rfl, rfl⟩ | ⟨t2, rfl⟩
  · refine call_clean (fn := Try.f48) rfl Try.func48 rfl rfl rfl rfl rfl (Nat.le_of_ble_eq_true rfl) ?_
    conv => whnf
    refine ⟨2, Nat.le_of_ble_eq_true rfl, ?_⟩
    conv => whnf
    rfl
  · cases l2 with
    | nil =>
      refine call_clean (fn := Try.f48) rfl Try.func48 rfl rfl rfl rfl rfl (Nat.le_of_ble_eq_true rfl) ?_
      conv => whnf
      refine ⟨2, Nat.le_of_ble_eq_true rfl, ?_⟩
      conv => whnf
      rfl
    | cons y l2 =>
      refine call_clean (fn := Try.f48) rfl Try.func48 rfl rfl rfl rfl rfl (Nat.le_of_ble_eq_true rfl) ?_
      conv => whnf
      rfl
  · cases l1 with
    | nil =>
      refine call_clean (fn := Try.f48) rfl Try.func48 rfl rfl rfl rfl rfl (Nat.le_of_ble_eq_true rfl) ?_
      conv => whnf
      refine ⟨2, Nat.le_of_ble_eq_true rfl, ?_⟩
      conv => whnf
      rfl
    | cons y l1 =>
      refine call_clean (fn := Try.f48) rfl Try.func48 rfl rfl rfl rfl rfl (Nat.le_of_ble_eq_true rfl) ?_
      conv => whnf
      rfl
  obtain ⟨r, hr⟩ : ∃ r, r = allSame nodeEq l1 l2 := ⟨_, rfl⟩
  rw [← hr]
  refine call_clean (fn := Try.f48) rfl Try.func48 rfl rfl rfl rfl rfl (Nat.le_of_ble_eq_true rfl) ?_
  conv => whnf
  cases hne : ((l1.length : Int) != (l2.length : Int)) with
  | true =>
    conv => whnf
    have hne : l1.length ≠ l2.length := by
      have : ¬ ((l1.length : Int) = (l2.length : Int)) := by simpa [bne] using hne
      omega
    rw [hr, allSame_ne hne]
  | false =>
    have hne : l1.length = l2.length := by
      have : ((l1.length : Int) = (l2.length : Int)) := by simpa [bne] using hne
      omega
    conv => whnf
    refine ⟨l1.length + 1, by show l1.length + 1 ≤ 4611686018427387904; omega, ?_⟩
    refine rounds_ind (sameNodesS l1 t1 l2 t2) (fun i => 0 ≤ i ∧ i ≤ l1.length ∧ r = allSame nodeEq (l1.drop i.toNat) (l2.drop i.toNat)) (fun i => (l1.length - i).toNat) ?_ _ 0 _ ⟨by omega, by omega, hr⟩ (by omega) (by kernel_rfl)
    intro i m' hI ih
    obtain ⟨hI0, hI1, hI2⟩ := hI
    conv => whnf
    cases h1 : decide (i < (l1.length : Int)) with
    | false =>
      have h1 := of_decide_eq_false h1
      conv => whnf
      rw [hI2, List.drop_eq_nil_of_le (by omega), List.drop_eq_nil_of_le (by omega)]
      rfl
    | true =>
      have h1 := of_decide_eq_true h1
      have h2 : i < (l2.length : Int) := by omega
      obtain ⟨x, hx⟩ : ∃ x, l1[i.toNat]? = some x := ⟨_, List.getElem?_eq_getElem (by omega)⟩
      obtain ⟨y, hy⟩ : ∃ y, l2[i.toNat]? = some y := ⟨_, List.getElem?_eq_getElem (by omega)⟩
      rw [allSame_drop hx hy] at hI2
      have hw : IntKind.wrap .i64 (i + 1) = i + 1 := wrap64 (by omega) (by omega)
      have hmu : (l1.length - IntKind.wrap .i64 (i + 1)).toNat < (l1.length - i).toNat := by rw [hw]; omega
      have hst : nodeEq x y = true → 0 ≤ IntKind.wrap .i64 (i + 1) ∧ IntKind.wrap .i64 (i + 1) ≤ l1.length ∧ r = allSame nodeEq (l1.drop (IntKind.wrap .i64 (i + 1)).toNat) (l2.drop (IntKind.wrap .i64 (i + 1)).toNat) := by
        intro he
        rw [show nodeEq x y = true from he, Bool.true_and] at hI2
        rw [hw, show (i + 1).toNat = i.toNat + 1 by omega]
        exact ⟨by omega, by omega, hI2⟩
      have hfa : nodeEq x y = false → r = false := by
        intro he
        rw [hI2, show nodeEq x y = false from he]
        rfl
      have hc1 : i.toNat * 25 + 25 ≤ (nodesA l1).length := by rw [nodesA_len]; omega
      have hc2 : i.toNat * 25 + 25 ≤ (nodesA l2).length := by rw [nodesA_len]; omega
      have hd1 := nodesA_node hx
      have hd2 := nodesA_node hy
      have k1 := hk1 x (List.mem_of_getElem? hx)
      have c1 : ∀ (f : FuncId) (h : H), (evAll TE (m + 2)).1 f (.fn 30 [] []) [.agg (nodeA x), .agg (nodeA y)] h = some (.ret (.bool (nodeEq x y)), h) := fun f h => sameNode_c m f h x y k1.1 (hk2 y (List.mem_of_getElem? hy)) k1.2.1 k1.2.2
      obtain ⟨q, hq⟩ : ∃ q, q = nodeEq x y := ⟨_, rfl⟩
      rw [← hq] at c1
      unfold nodeA at c1
      have k2 := hk2 y (List.mem_of_getElem? hy)
      have k1 := k1.1
      obtain ⟨kd, ge, mo, us, ng, li, xrs, xrn, xws, xwn, ts, tn, da, by_, vf, ta, ls, es, pa, nx⟩ := x
      obtain ⟨kd', ge', mo', us', ng', li', xrs', xrn', xws', xwn', ts', tn', da', by', vf', ta', ls', es', pa', nx'⟩ := y
      simp only [NodeS.ok, rowOk, entsOk] at k1 k2
      obtain ⟨hd3, hd4⟩ := k1
      obtain ⟨hd5, hd6⟩ := k2
      dsimp only at c1
      rcases hd3 with ⟨rfl, rfl⟩ | ⟨dt, rfl⟩ <;> rcases hd4 with ⟨rfl, rfl⟩ | ⟨lt, rfl⟩ <;> rcases hd5 with ⟨rfl, rfl⟩ | ⟨dt', rfl⟩ <;> rcases hd6 with ⟨rfl, rfl⟩ | ⟨lt', rfl⟩
      all_goals
        conv => whnf
        (refine runK_ret (ev_indexSl (cells := nodesA l1) (sz := 25) rfl rfl rfl rfl hI0 h1) ?_)
        conv => whnf
        (refine runK_ret (ev_loadVA (z := 25) rfl rfl rfl hc1 hd1) ?_)
        conv => whnf
        (refine runK_ret (ev_indexSl (cells := nodesA l2) (sz := 25) rfl rfl rfl rfl hI0 h2) ?_)
        conv => whnf
        (refine runK_ret (ev_loadVA (z := 25) rfl rfl rfl hc2 hd2) ?_)
        conv => whnf
        with_reducible refine ⟨_, _, c1 _ _, ?_⟩
        conv => whnf
        (refine ⟨by kernel_rfl, ?_⟩)
        conv => whnf
        (refine ⟨by kernel_rfl, ?_⟩)
        conv => whnf
        cases q
        · conv => whnf
          (rw [hfa hq.symm])
        · conv => whnf
          (exact ih (IntKind.wrap .i64 (i + 1)) _ (hst hq.symm) hmu (by kernel_rfl))

theorem sameTree_c (m : Nat) (from_ : FuncId) (h : H) (a b : TreeS) (ha : a.ok) (hb : nodesOk b.v b.ns) (hbk : ∀ x ∈ b.ns, x.ok) : evCall TE (m + 4) from_ (.fn 13 [] []) [treeA a, treeA b] h = some (.ret (.bool (allSame nodeEq a.ns b.ns && a.gen == b.gen)), h) := by
  have c1 : ∀ (f : FuncId) (h : H), (evAll TE (m + 3)).1 f (.fn 48 [] []) [a.v, b.v] h = some (.ret (.bool (allSame nodeEq a.ns b.ns)), h) := fun f h => sameNodes_c m f h _ _ _ _ ha.v hb ha.len (fun x hx => ⟨(ha.ns x hx).1, (ha.ns x hx).2.bytesL, by have := (ha.ns x hx).2.entsL; omega⟩) hbk
  have ha := ha.v
  obtain ⟨v1, l1, g1⟩ := a
  obtain ⟨v2, l2, g2⟩ := b
  unfold treeA
  dsimp only at c1 ha hb ⊢
  obtain ⟨q, hq⟩ : ∃ q, q = allSame nodeEq l1 l2 := ⟨_, rfl⟩
  rw [← hq] at c1 ⊢
  clear hq
  rcases ha with ⟨rfl, rfl⟩ | ⟨t1, rfl⟩ <;> rcases hb with ⟨rfl, rfl⟩ | ⟨t2, rfl⟩
  all_goals refine call_clean (fn := Try.f13) rfl Try.func13 rfl rfl rfl rfl rfl (Nat.le_of_ble_eq_true rfl) ?_
  all_goals
    conv => whnf
    with_reducible refine ⟨_, _, c1 _ _, ?_⟩
    conv => whnf
    cases q
    · conv => whnf
      rfl
    · conv => whnf
      rfl
end Go.Proofs.Ytbebcbcnibfbhaa.Ab
