import Derived.Test.YtbebcbcnibfbhaaF32
/- Over the engine: rows that are cloned and clipped. -/
namespace Go.Proofs.Ytbebcbcnibfbhaa.Ab
open Go Go.RowKit

set_option maxRecDepth 100000
/-- A row in memory of its own. -/
def rowC (c : List AV) (n : Nat) (v : AV) : AV := match v with
  | .sl0 => .sl0
  | _ => .sl c n true
theorem numsA_len (k : IntKind) (l : List Int) : (numsA k l).length = l.length * 1 := by simp [numsA]

theorem bytesClone_c (m : Nat) (from_ : FuncId) (h : H) (a : Int) (l : List Int) (t : Bool) (hl : (a :: l).length * 1 ≤ 140737488351232) : evCall TE (m + 1) from_ (.fn 79 [] []) [.sl (numsA .u8 (a :: l)) (a :: l).length t] h = some (.ret (.sl (numsA .u8 (a :: l)) (a :: l).length false), h) := by
  obtain ⟨n, hn⟩ : ∃ n, n = (a :: l).length := ⟨_, rfl⟩
  have hn0 : 0 < n := by rw [hn]; exact Nat.succ_pos _
  have hc : (numsA .u8 (a :: l)).length = n * 1 := by rw [numsA_len, hn]
  rw [← hn] at hl ⊢
  clear hn
  generalize numsA .u8 (a :: l) = c at hc ⊢
  refine call_cleanE (fn := Try.f79) rfl Try.func79 rfl rfl rfl rfl rfl (Nat.le_of_ble_eq_true rfl) ?_
  intro End hE
  conv => whnf
  (refine     runK_append_new (sz := 1) (by_ := 1) rfl rfl rfl rfl rfl rfl rfl rfl rfl hn0 hc (by omega) (by omega) (by decide)       rfl ?_)
  conv => whnf
  (refine     hE _ _ [_] _ _ (.inr rfl) rfl       (leaveA_of (seal_rsl rfl rfl rfl rfl (by show 0 + n * 1 ≤ c.length; omega) (by decide)) rfl rfl) ?_)
  conv => whnf
  (show AV.sl ((c.drop 0).take (n * 1)) n false = _; rw [List.drop_zero, ← hc, List.take_length])
theorem bytesClone_0 (m : Nat) (from_ : FuncId) (h : H) (t : Bool) : evCall TE (m + 1) from_ (.fn 79 [] []) [.sl [] 0 t] h = some (.ret (.sl [] 0 true), h) := by
  refine call_clean (fn := Try.f79) rfl Try.func79 rfl rfl rfl rfl rfl (Nat.le_of_ble_eq_true rfl) ?_
  conv => whnf
  rfl
theorem bytesClone_nil (m : Nat) (from_ : FuncId) (h : H) : evCall TE (m + 1) from_ (.fn 79 [] []) [.sl0] h = some (.ret .sl0, h) := by
  refine call_clean (fn := Try.f79) rfl Try.func79 rfl rfl rfl rfl rfl (Nat.le_of_ble_eq_true rfl) ?_
  conv => whnf
theorem bytesClip_c (m : Nat) (from_ : FuncId) (h : H) (l : List Int) (t : Bool) : evCall TE (m + 1) from_ (.fn 60 [] []) [.sl (numsA .u8 l) l.length t] h = some (.ret (.sl (numsA .u8 l) l.length true), h) := by
  have hc : (numsA .u8 l).length = l.length * 1 := by rw [numsA_len]
  refine call_clean (fn := Try.f60) rfl Try.func60 rfl rfl rfl rfl rfl (Nat.le_of_ble_eq_true rfl) ?_
  conv => whnf
  (refine runK_ret (ev_clip (sz := 1) rfl rfl rfl rfl rfl hc) ?_)
  conv => whnf
theorem bytesClip_0 (m : Nat) (from_ : FuncId) (h : H) (t : Bool) : evCall TE (m + 1) from_ (.fn 60 [] []) [.sl [] 0 t] h = some (.ret (.sl [] 0 true), h) := bytesClip_c m from_ h [] t
theorem bytes_three {v : AV} {l : List Int} (hv : rowOk .u8 v l) : (v = .sl0 ∧ l = []) ∨ (∃ t, v = .sl [] 0 t ∧ l = []) ∨ ∃ a r t, v = .sl (numsA .u8 (a :: r)) (a :: r).length t ∧ l = a :: r := by
  rcases hv with h | ⟨t, rfl⟩
  · exact .inl h
  · cases l with
    | nil => exact .inr (.inl ⟨t, rfl, rfl⟩)
    | cons a r => exact .inr (.inr ⟨a, r, t, rfl, rfl⟩)
theorem bytesClip_nil (m : Nat) (from_ : FuncId) (h : H) : evCall TE (m + 1) from_ (.fn 60 [] []) [.sl0] h = some (.ret .sl0, h) := by
  refine call_clean (fn := Try.f60) rfl Try.func60 rfl rfl rfl rfl rfl (Nat.le_of_ble_eq_true rfl) ?_
  conv => whnf
/-- What a clone's clone is. -/
theorem bytes_own (v : AV) (l : List Int) (hv : rowOk .u8 v l) (hl : l.length * 1 ≤ 140737488351232) : ∃ u, u.clean = true ∧ (∀ (m : Nat) (f : FuncId) (h : H), evCall TE (m + 1) f (.fn 79 [] []) [v] h = some (.ret u, h)) ∧ ∀ (m : Nat) (f : FuncId) (h : H), evCall TE (m + 1) f (.fn 60 [] []) [u] h = some (.ret (rowC (numsA .u8 l) l.length v), h) := by
  rcases hv with ⟨rfl, rfl⟩ | ⟨t, rfl⟩
  · exact ⟨.sl0, rfl, bytesClone_nil, bytesClip_nil⟩
  · cases l with
    | nil => exact ⟨.sl [] 0 true, rfl, fun m f h => bytesClone_0 m f h t, fun m f h => bytesClip_c m f h [] true⟩
    | cons a l => exact ⟨_, rfl, fun m f h => bytesClone_c m f h a l t hl, fun m f h => bytesClip_c m f h (a :: l) false⟩
theorem bytesC_ok {v : AV} {l : List Int} (hv : rowOk .u8 v l) : rowOk .u8 (rowC (numsA .u8 l) l.length v) l := by
  rcases hv with ⟨rfl, rfl⟩ | ⟨t, rfl⟩
  · exact .inl ⟨rfl, rfl⟩
  · exact .inr ⟨true, rfl⟩

theorem entsClone_c (m : Nat) (from_ : FuncId) (h : H) (a : EntryS) (l : List EntryS) (t : Bool) (hl : (a :: l).length * 32 ≤ 140737488351232) : evCall TE (m + 1) from_ (.fn 81 [] []) [.sl (entriesA (a :: l)) (a :: l).length t] h = some (.ret (.sl (entriesA (a :: l)) (a :: l).length false), h) := by
  obtain ⟨n, hn⟩ : ∃ n, n = (a :: l).length := ⟨_, rfl⟩
  have hn0 : 0 < n := by rw [hn]; exact Nat.succ_pos _
  have hc : (entriesA (a :: l)).length = n * 3 := by rw [entriesA_len, hn]
  rw [← hn] at hl ⊢
  clear hn
  generalize entriesA (a :: l) = c at hc ⊢
  refine call_cleanE (fn := Try.f81) rfl Try.func81 rfl rfl rfl rfl rfl (Nat.le_of_ble_eq_true rfl) ?_
  intro End hE
  conv => whnf
  (refine     runK_append_new (sz := 3) (by_ := 32) rfl rfl rfl rfl rfl rfl rfl rfl rfl hn0 hc (by omega) (by omega) (by decide)       rfl ?_)
  conv => whnf
  (refine     hE _ _ [_] _ _ (.inr rfl) rfl       (leaveA_of (seal_rsl rfl rfl rfl rfl (by show 0 + n * 3 ≤ c.length; omega) (by decide)) rfl rfl) ?_)
  conv => whnf
  (show AV.sl ((c.drop 0).take (n * 3)) n false = _; rw [List.drop_zero, ← hc, List.take_length])
theorem entsClone_0 (m : Nat) (from_ : FuncId) (h : H) (t : Bool) : evCall TE (m + 1) from_ (.fn 81 [] []) [.sl [] 0 t] h = some (.ret (.sl [] 0 true), h) := by
  refine call_clean (fn := Try.f81) rfl Try.func81 rfl rfl rfl rfl rfl (Nat.le_of_ble_eq_true rfl) ?_
  conv => whnf
  rfl
theorem entsClone_nil (m : Nat) (from_ : FuncId) (h : H) : evCall TE (m + 1) from_ (.fn 81 [] []) [.sl0] h = some (.ret .sl0, h) := by
  refine call_clean (fn := Try.f81) rfl Try.func81 rfl rfl rfl rfl rfl (Nat.le_of_ble_eq_true rfl) ?_
  conv => whnf
theorem entsClip_c (m : Nat) (from_ : FuncId) (h : H) (l : List EntryS) (t : Bool) : evCall TE (m + 1) from_ (.fn 80 [] []) [.sl (entriesA l) l.length t] h = some (.ret (.sl (entriesA l) l.length true), h) := by
  have hc : (entriesA l).length = l.length * 3 := by rw [entriesA_len]
  refine call_clean (fn := Try.f80) rfl Try.func80 rfl rfl rfl rfl rfl (Nat.le_of_ble_eq_true rfl) ?_
  conv => whnf
  (refine runK_ret (ev_clip (sz := 3) rfl rfl rfl rfl rfl hc) ?_)
  conv => whnf
theorem entsClip_0 (m : Nat) (from_ : FuncId) (h : H) (t : Bool) : evCall TE (m + 1) from_ (.fn 80 [] []) [.sl [] 0 t] h = some (.ret (.sl [] 0 true), h) := entsClip_c m from_ h [] t
theorem ents_three {v : AV} {l : List EntryS} (hv : entsOk v l) : (v = .sl0 ∧ l = []) ∨ (∃ t, v = .sl [] 0 t ∧ l = []) ∨ ∃ a r t, v = .sl (entriesA (a :: r)) (a :: r).length t ∧ l = a :: r := by
  rcases hv with h | ⟨t, rfl⟩
  · exact .inl h
  · cases l with
    | nil => exact .inr (.inl ⟨t, rfl, rfl⟩)
    | cons a r => exact .inr (.inr ⟨a, r, t, rfl, rfl⟩)
theorem entsClip_nil (m : Nat) (from_ : FuncId) (h : H) : evCall TE (m + 1) from_ (.fn 80 [] []) [.sl0] h = some (.ret .sl0, h) := by
  refine call_clean (fn := Try.f80) rfl Try.func80 rfl rfl rfl rfl rfl (Nat.le_of_ble_eq_true rfl) ?_
  conv => whnf
/-- What a clone's clone is. -/
theorem ents_own (v : AV) (l : List EntryS) (hv : entsOk v l) (hl : l.length * 32 ≤ 140737488351232) : ∃ u, u.clean = true ∧ (∀ (m : Nat) (f : FuncId) (h : H), evCall TE (m + 1) f (.fn 81 [] []) [v] h = some (.ret u, h)) ∧ ∀ (m : Nat) (f : FuncId) (h : H), evCall TE (m + 1) f (.fn 80 [] []) [u] h = some (.ret (rowC (entriesA l) l.length v), h) := by
  rcases hv with ⟨rfl, rfl⟩ | ⟨t, rfl⟩
  · exact ⟨.sl0, rfl, entsClone_nil, entsClip_nil⟩
  · cases l with
    | nil => exact ⟨.sl [] 0 true, rfl, fun m f h => entsClone_0 m f h t, fun m f h => entsClip_c m f h [] true⟩
    | cons a l => exact ⟨_, rfl, fun m f h => entsClone_c m f h a l t hl, fun m f h => entsClip_c m f h (a :: l) false⟩
theorem entsC_ok {v : AV} {l : List EntryS} (hv : entsOk v l) : entsOk (rowC (entriesA l) l.length v) l := by
  rcases hv with ⟨rfl, rfl⟩ | ⟨t, rfl⟩
  · exact .inl ⟨rfl, rfl⟩
  · exact .inr ⟨true, rfl⟩
end Go.Proofs.Ytbebcbcnibfbhaa.Ab
