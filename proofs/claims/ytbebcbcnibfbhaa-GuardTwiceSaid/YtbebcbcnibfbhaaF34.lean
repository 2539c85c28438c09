import Derived.Test.YtbebcbcnibfbhaaF31
/- Over the engine: what is set of a node, in plain words; set twice is set once. -/
namespace Go.Proofs.Ytbebcbcnibfbhaa.Ab
open Go Go.RowKit

/-- A file's bytes, so many. -/
def sized (l : List Int) (n : Nat) : List Int := l.take n ++ List.replicate (n - l.length) 0
theorem sized_len (l : List Int) (n : Nat) : (sized l n).length = n := by
  unfold sized
  rw [List.length_append, List.length_take, List.length_replicate]
  omega
theorem sized_self {l : List Int} {n : Nat} (h : l.length = n) : sized l n = l := by
  unfold sized
  rw [List.take_of_length_le (by omega), show n - l.length = 0 by omega]
  simp
/-- The deeds, one after the other. -/
def turned (x : NodeS) (ss sn : Int) : NodeS := { x with ts := ss, tn := sn }
def deed1 (s : SetS) (ss sn : Int) (x : NodeS) : NodeS := if s.hm = true then { x with mode := s.mode, ts := ss, tn := sn } else x
def deed2 (s : SetS) (ss sn : Int) (x : NodeS) : NodeS := if s.hu = true then { x with user := s.user, ts := ss, tn := sn } else x
def deed3 (s : SetS) (ss sn : Int) (x : NodeS) : NodeS := if s.hg = true then { x with group := s.group, ts := ss, tn := sn } else x
def deed4 (s : SetS) (ss sn : Int) (d : AV) (x : NodeS) : NodeS := if s.hs = true then { x with data := d, bytes := sized x.bytes s.size.toNat, ws := ss, wn := sn, ts := ss, tn := sn } else x
def deed5 (s : SetS) (ss sn : Int) (x : NodeS) : NodeS := if (s.rh == 2) = true then { x with rs := s.rs, rn := s.rn, ts := ss, tn := sn } else if (s.rh == 1) = true then { x with rs := ss, rn := sn, ts := ss, tn := sn } else x
def deed6 (s : SetS) (ss sn : Int) (x : NodeS) : NodeS := if (s.wh == 2) = true then { x with ws := s.ws, wn := s.wn, ts := ss, tn := sn } else if (s.wh == 1) = true then { x with ws := ss, wn := sn, ts := ss, tn := sn } else x
def deeds (s : SetS) (ss sn : Int) (d : AV) (x : NodeS) : NodeS := deed6 s ss sn (deed5 s ss sn (deed4 s ss sn d (deed3 s ss sn (deed2 s ss sn (deed1 s ss sn x)))))
theorem verfEq_self (x y : NodeS) (h : x.verf = y.verf) : verfEq x y = true := by
  unfold verfEq
  rw [h]
  simp
theorem entsEq_self (l : List EntryS) : allSame entEq l l = true := by
  induction l with
  | nil => rfl
  | cons a l ih => rw [allSame, ih, Bool.and_true]; exact entEq_iff.2 rfl
theorem bytesEq_self (l : List Int) : allSame intEq l l = true := by
  rw [allSame_int]
  simp
/-- A node, but for how its rows are told. -/
def likeN (x y : NodeS) : Prop := x.kind = y.kind ∧ x.gen = y.gen ∧ x.mode = y.mode ∧ x.user = y.user ∧ x.group = y.group ∧ x.links = y.links ∧ x.rs = y.rs ∧ x.rn = y.rn ∧ x.ws = y.ws ∧ x.wn = y.wn ∧ x.ts = y.ts ∧ x.tn = y.tn ∧ x.bytes = y.bytes ∧ x.verf = y.verf ∧ x.target = y.target ∧ x.ents = y.ents ∧ x.parent = y.parent ∧ x.next = y.next
theorem nodeEq_of {x y : NodeS} (h : likeN x y) : nodeEq x y = true := by
  obtain ⟨h1, h2, h3, h4, h5, h6, h7, h8, h9, h10, h11, h12, h13, h14, h15, h16, h17, h18⟩ := h
  unfold nodeEq
  rw [h1, h2, h3, h4, h5, h6, h7, h8, h9, h10, h11, h12, h13, h15, h16, h17, h18, verfEq_self x y h14, entsEq_self, bytesEq_self]
  simp
section
variable (s : SetS) (ss sn : Int) (d : AV) (y : NodeS)
theorem deeds_kind : (deeds s ss sn d y).kind = y.kind := by
  simp only [deeds, deed6, deed5, deed4, deed3, deed2, deed1, apply_ite NodeS.kind, ite_self]
theorem deeds_gen : (deeds s ss sn d y).gen = y.gen := by
  simp only [deeds, deed6, deed5, deed4, deed3, deed2, deed1, apply_ite NodeS.gen, ite_self]
theorem deeds_mode : (deeds s ss sn d y).mode = if s.hm = true then s.mode else y.mode := by
  simp only [deeds, deed6, deed5, deed4, deed3, deed2, deed1, apply_ite NodeS.mode, ite_self]
theorem deeds_user : (deeds s ss sn d y).user = if s.hu = true then s.user else y.user := by
  simp only [deeds, deed6, deed5, deed4, deed3, deed2, deed1, apply_ite NodeS.user, ite_self]
theorem deeds_group : (deeds s ss sn d y).group = if s.hg = true then s.group else y.group := by
  simp only [deeds, deed6, deed5, deed4, deed3, deed2, deed1, apply_ite NodeS.group, ite_self]
theorem deeds_links : (deeds s ss sn d y).links = y.links := by
  simp only [deeds, deed6, deed5, deed4, deed3, deed2, deed1, apply_ite NodeS.links, ite_self]
theorem deeds_rs : (deeds s ss sn d y).rs = if (s.rh == 2) = true then s.rs else if (s.rh == 1) = true then ss else y.rs := by
  simp only [deeds, deed6, deed5, deed4, deed3, deed2, deed1, apply_ite NodeS.rs, ite_self]
theorem deeds_rn : (deeds s ss sn d y).rn = if (s.rh == 2) = true then s.rn else if (s.rh == 1) = true then sn else y.rn := by
  simp only [deeds, deed6, deed5, deed4, deed3, deed2, deed1, apply_ite NodeS.rn, ite_self]
theorem deeds_ws : (deeds s ss sn d y).ws = if (s.wh == 2) = true then s.ws else if (s.wh == 1) = true then ss else if s.hs = true then ss else y.ws := by
  simp only [deeds, deed6, deed5, deed4, deed3, deed2, deed1, apply_ite NodeS.ws, ite_self]
theorem deeds_wn : (deeds s ss sn d y).wn = if (s.wh == 2) = true then s.wn else if (s.wh == 1) = true then sn else if s.hs = true then sn else y.wn := by
  simp only [deeds, deed6, deed5, deed4, deed3, deed2, deed1, apply_ite NodeS.wn, ite_self]
theorem deeds_ts : (deeds s ss sn d y).ts = if (s.wh == 2) = true then ss else if (s.wh == 1) = true then ss else if (s.rh == 2) = true then ss else if (s.rh == 1) = true then ss else if s.hs = true then ss else if s.hg = true then ss else if s.hu = true then ss else if s.hm = true then ss else y.ts := by
  simp only [deeds, deed6, deed5, deed4, deed3, deed2, deed1, apply_ite NodeS.ts, ite_self]
theorem deeds_tn : (deeds s ss sn d y).tn = if (s.wh == 2) = true then sn else if (s.wh == 1) = true then sn else if (s.rh == 2) = true then sn else if (s.rh == 1) = true then sn else if s.hs = true then sn else if s.hg = true then sn else if s.hu = true then sn else if s.hm = true then sn else y.tn := by
  simp only [deeds, deed6, deed5, deed4, deed3, deed2, deed1, apply_ite NodeS.tn, ite_self]
theorem deeds_bytes : (deeds s ss sn d y).bytes = if s.hs = true then sized y.bytes s.size.toNat else y.bytes := by
  simp only [deeds, deed6, deed5, deed4, deed3, deed2, deed1, apply_ite NodeS.bytes, ite_self]
theorem deeds_verf : (deeds s ss sn d y).verf = y.verf := by
  simp only [deeds, deed6, deed5, deed4, deed3, deed2, deed1, apply_ite NodeS.verf, ite_self]
theorem deeds_target : (deeds s ss sn d y).target = y.target := by
  simp only [deeds, deed6, deed5, deed4, deed3, deed2, deed1, apply_ite NodeS.target, ite_self]
theorem deeds_ents : (deeds s ss sn d y).ents = y.ents := by
  simp only [deeds, deed6, deed5, deed4, deed3, deed2, deed1, apply_ite NodeS.ents, ite_self]
theorem deeds_parent : (deeds s ss sn d y).parent = y.parent := by
  simp only [deeds, deed6, deed5, deed4, deed3, deed2, deed1, apply_ite NodeS.parent, ite_self]
theorem deeds_next : (deeds s ss sn d y).next = y.next := by
  simp only [deeds, deed6, deed5, deed4, deed3, deed2, deed1, apply_ite NodeS.next, ite_self]
end
theorem deeds_twice (s : SetS) (ss sn : Int) (d d' : AV) (x : NodeS) (x' : NodeS) (h : likeN (deeds s ss sn d x) x') : likeN (deeds s ss sn d x) (deeds s ss sn d' x') := by
  obtain ⟨h1, h2, h3, h4, h5, h6, h7, h8, h9, h10, h11, h12, h13, h14, h15, h16, h17, h18⟩ := h
  refine ⟨?_, ?_, ?_, ?_, ?_, ?_, ?_, ?_, ?_, ?_, ?_, ?_, ?_, ?_, ?_, ?_, ?_, ?_⟩
  · rw [deeds_kind s ss sn d' x', ← h1, deeds_kind]
  · rw [deeds_gen s ss sn d' x', ← h2, deeds_gen]
  · rw [deeds_mode s ss sn d' x', ← h3, deeds_mode]
    by_cases k0 : s.hm = true
    · rw [if_pos k0, if_pos k0]
    · rw [if_neg k0, if_neg k0]
  · rw [deeds_user s ss sn d' x', ← h4, deeds_user]
    by_cases k0 : s.hu = true
    · rw [if_pos k0, if_pos k0]
    · rw [if_neg k0, if_neg k0]
  · rw [deeds_group s ss sn d' x', ← h5, deeds_group]
    by_cases k0 : s.hg = true
    · rw [if_pos k0, if_pos k0]
    · rw [if_neg k0, if_neg k0]
  · rw [deeds_links s ss sn d' x', ← h6, deeds_links]
  · rw [deeds_rs s ss sn d' x', ← h7, deeds_rs]
    by_cases k0 : (s.rh == 2) = true
    · rw [if_pos k0, if_pos k0]
    · rw [if_neg k0, if_neg k0]
      by_cases k1 : (s.rh == 1) = true
      · rw [if_pos k1, if_pos k1]
      · rw [if_neg k1, if_neg k1]
  · rw [deeds_rn s ss sn d' x', ← h8, deeds_rn]
    by_cases k0 : (s.rh == 2) = true
    · rw [if_pos k0, if_pos k0]
    · rw [if_neg k0, if_neg k0]
      by_cases k1 : (s.rh == 1) = true
      · rw [if_pos k1, if_pos k1]
      · rw [if_neg k1, if_neg k1]
  · rw [deeds_ws s ss sn d' x', ← h9, deeds_ws]
    by_cases k0 : (s.wh == 2) = true
    · rw [if_pos k0, if_pos k0]
    · rw [if_neg k0, if_neg k0]
      by_cases k1 : (s.wh == 1) = true
      · rw [if_pos k1, if_pos k1]
      · rw [if_neg k1, if_neg k1]
        by_cases k2 : s.hs = true
        · rw [if_pos k2, if_pos k2]
        · rw [if_neg k2, if_neg k2]
  · rw [deeds_wn s ss sn d' x', ← h10, deeds_wn]
    by_cases k0 : (s.wh == 2) = true
    · rw [if_pos k0, if_pos k0]
    · rw [if_neg k0, if_neg k0]
      by_cases k1 : (s.wh == 1) = true
      · rw [if_pos k1, if_pos k1]
      · rw [if_neg k1, if_neg k1]
        by_cases k2 : s.hs = true
        · rw [if_pos k2, if_pos k2]
        · rw [if_neg k2, if_neg k2]
  · rw [deeds_ts s ss sn d' x', ← h11, deeds_ts]
    by_cases k0 : (s.wh == 2) = true
    · rw [if_pos k0, if_pos k0]
    · rw [if_neg k0, if_neg k0]
      by_cases k1 : (s.wh == 1) = true
      · rw [if_pos k1, if_pos k1]
      · rw [if_neg k1, if_neg k1]
        by_cases k2 : (s.rh == 2) = true
        · rw [if_pos k2, if_pos k2]
        · rw [if_neg k2, if_neg k2]
          by_cases k3 : (s.rh == 1) = true
          · rw [if_pos k3, if_pos k3]
          · rw [if_neg k3, if_neg k3]
            by_cases k4 : s.hs = true
            · rw [if_pos k4, if_pos k4]
            · rw [if_neg k4, if_neg k4]
              by_cases k5 : s.hg = true
              · rw [if_pos k5, if_pos k5]
              · rw [if_neg k5, if_neg k5]
                by_cases k6 : s.hu = true
                · rw [if_pos k6, if_pos k6]
                · rw [if_neg k6, if_neg k6]
                  by_cases k7 : s.hm = true
                  · rw [if_pos k7, if_pos k7]
                  · rw [if_neg k7, if_neg k7]
  · rw [deeds_tn s ss sn d' x', ← h12, deeds_tn]
    by_cases k0 : (s.wh == 2) = true
    · rw [if_pos k0, if_pos k0]
    · rw [if_neg k0, if_neg k0]
      by_cases k1 : (s.wh == 1) = true
      · rw [if_pos k1, if_pos k1]
      · rw [if_neg k1, if_neg k1]
        by_cases k2 : (s.rh == 2) = true
        · rw [if_pos k2, if_pos k2]
        · rw [if_neg k2, if_neg k2]
          by_cases k3 : (s.rh == 1) = true
          · rw [if_pos k3, if_pos k3]
          · rw [if_neg k3, if_neg k3]
            by_cases k4 : s.hs = true
            · rw [if_pos k4, if_pos k4]
            · rw [if_neg k4, if_neg k4]
              by_cases k5 : s.hg = true
              · rw [if_pos k5, if_pos k5]
              · rw [if_neg k5, if_neg k5]
                by_cases k6 : s.hu = true
                · rw [if_pos k6, if_pos k6]
                · rw [if_neg k6, if_neg k6]
                  by_cases k7 : s.hm = true
                  · rw [if_pos k7, if_pos k7]
                  · rw [if_neg k7, if_neg k7]
  · rw [deeds_bytes s ss sn d' x', ← h13, deeds_bytes]
    by_cases k0 : s.hs = true
    · rw [if_pos k0, if_pos k0, sized_self (sized_len _ _)]
    · rw [if_neg k0, if_neg k0]
  · rw [deeds_verf s ss sn d' x', ← h14, deeds_verf]
  · rw [deeds_target s ss sn d' x', ← h15, deeds_target]
  · rw [deeds_ents s ss sn d' x', ← h16, deeds_ents]
  · rw [deeds_parent s ss sn d' x', ← h17, deeds_parent]
  · rw [deeds_next s ss sn d' x', ← h18, deeds_next]
end Go.Proofs.Ytbebcbcnibfbhaa.Ab
