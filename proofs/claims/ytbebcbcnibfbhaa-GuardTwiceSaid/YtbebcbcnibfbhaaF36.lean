import Derived.Test.YtbebcbcnibfbhaaF35
import Derived.Test.YtbebcbcnibfbhaaF34
/- Over the engine: the deeds that are done to a node. -/
namespace Go.Proofs.Ytbebcbcnibfbhaa.Ab
open Go Go.RowKit

set_option maxRecDepth 100000
/-- What the loops of some code go through, in order. -/
def loopsOf : Code → List Code
  | .loop b => [b]
  | .seq a b => loopsOf a ++ loopsOf b
  | .cond _ a b => loopsOf a ++ loopsOf b
  | .block _ b => loopsOf b
  | .scope b => loopsOf b
  | _ => []
def loopAt (fn : Func) (k : Nat) : Code := match fn.body with
  | some c => (loopsOf c).getD k .skip
  | none => .skip
section
variable (b0 b1 b4 b5 b6 b7 b8 b9 b10 b11 b12 b13 b14 b15 b16 b17 b18 b19 b20 : AB) (s : SetS) (ss sn : Int) (bo : Nat → Int) (n : Int)
def deedsT (k : Nat) : RG := RG.of 87 [(75, .int .i64 k), (74, .agg [.fn 40 [] [.ref 2 0 0, .ref 22 0 0], .fn 42 [] [.ref 2 0 0, .ref 22 0 0], .fn 43 [] [.ref 2 0 0, .ref 22 0 0], .fn 44 [] [.ref 2 0 0, .ref 22 0 0, .ref 3 0 0], .fn 46 [] [.ref 2 0 0, .ref 22 0 0, .ref 3 0 0], .fn 47 [] [.ref 2 0 0, .ref 22 0 0, .ref 3 0 0]]), (18, .ref 22 0 0), (10, .ref 4 0 0), (9, .ref 3 0 0), (5, .ref 0 0 0)]
/-- The state at a deed. -/
def deedsS (a : Nat × List NodeS × NodeS) : ST :=
  match Nat.blt 3 a.1 && s.hs with
  | false => ⟨deedsT a.1, ⟨[b0, b1, .cells [.bool s.hm, .int .u32 s.mode, .bool s.hu, .int .u32 s.user, .bool s.hg, .int .u32 s.group, .bool s.hs, .int .u64 s.size, .int .u32 s.rh, .int .u32 s.rs, .int .u32 s.rn, .int .u32 s.wh, .int .u32 s.ws, .int .u32 s.wn] ⟨false, 0, false, true⟩, .cells [.int .u32 ss, .int .u32 sn, .int .u8 (bo 0), .int .u8 (bo 1), .int .u8 (bo 2), .int .u8 (bo 3), .int .u8 (bo 4), .int .u8 (bo 5), .int .u8 (bo 6), .int .u8 (bo 7)] ⟨false, 0, false, true⟩, b4, b5, b6, b7, b8, b9, b10, b11, b12, b13, b14, b15, b16, b17, b18, b19, b20, .cells (nodesA a.2.1) ⟨false, 25, false, true⟩, .cells [.ref 21 (0 + n.toNat * 25) 0] ⟨false, 0, false, true⟩, .cells [.fn 40 [] [.ref 2 0 0, .ref 22 0 0], .fn 42 [] [.ref 2 0 0, .ref 22 0 0], .fn 43 [] [.ref 2 0 0, .ref 22 0 0], .fn 44 [] [.ref 2 0 0, .ref 22 0 0, .ref 3 0 0], .fn 46 [] [.ref 2 0 0, .ref 22 0 0, .ref 3 0 0], .fn 47 [] [.ref 2 0 0, .ref 22 0 0, .ref 3 0 0]] ⟨false, 0, false, true⟩], [(0, 22), (20, 22), (19, 22)]⟩⟩
  | true => ⟨deedsT a.1, ⟨[b0, b1, .cells [.bool s.hm, .int .u32 s.mode, .bool s.hu, .int .u32 s.user, .bool s.hg, .int .u32 s.group, .bool s.hs, .int .u64 s.size, .int .u32 s.rh, .int .u32 s.rs, .int .u32 s.rn, .int .u32 s.wh, .int .u32 s.ws, .int .u32 s.wn] ⟨false, 0, false, true⟩, .cells [.int .u32 ss, .int .u32 sn, .int .u8 (bo 0), .int .u8 (bo 1), .int .u8 (bo 2), .int .u8 (bo 3), .int .u8 (bo 4), .int .u8 (bo 5), .int .u8 (bo 6), .int .u8 (bo 7)] ⟨false, 0, false, true⟩, b4, b5, b6, b7, b8, b9, b10, b11, b12, b13, b14, b15, b16, b17, b18, b19, b20, .cells (nodesA a.2.1) ⟨false, 25, false, true⟩, .cells [.ref 21 (0 + n.toNat * 25) 0] ⟨false, 0, false, true⟩, .cells [.fn 40 [] [.ref 2 0 0, .ref 22 0 0], .fn 42 [] [.ref 2 0 0, .ref 22 0 0], .fn 43 [] [.ref 2 0 0, .ref 22 0 0], .fn 44 [] [.ref 2 0 0, .ref 22 0 0, .ref 3 0 0], .fn 46 [] [.ref 2 0 0, .ref 22 0 0, .ref 3 0 0], .fn 47 [] [.ref 2 0 0, .ref 22 0 0, .ref 3 0 0]] ⟨false, 0, false, true⟩, .cells (numsA .u8 a.2.2.bytes) ⟨true, 1, false, true⟩, .void, .void, .void, .void, .void, .void, .void, .void, .void], [(21, 25), (0, 22), (20, 22), (19, 22)]⟩⟩
end
theorem set_same {α : Type} {l : List α} {i : Nat} {x : α} (h : l[i]? = some x) : l.set i x = l := by
  obtain ⟨h1, rfl⟩ := List.getElem?_eq_some_iff.1 h
  exact List.set_getElem_self h1
theorem splice_sized (l : List Int) (z : Nat) : splice (List.replicate z (.int .u8 0)) 0 ((numsA .u8 l).take (min l.length z)) = numsA .u8 (sized l z) := by
  rcases Nat.le_total l.length z with h | h
  · rw [Nat.min_eq_left h, List.take_of_length_le (by simp [numsA])]
    unfold sized
    rw [List.take_of_length_le h]
    obtain ⟨k, rfl⟩ : ∃ k, z = l.length + k := ⟨z - l.length, by omega⟩
    rw [Nat.add_sub_cancel_left, List.replicate_append_replicate.symm]
    have h1 := splice_left (List.replicate l.length (AV.int .u8 0)) (List.replicate k (AV.int .u8 0)) 0 (numsA .u8 l) (by simp [numsA])
    rw [h1, splice_all _ _ (by simp [numsA])]
    simp [numsA]
  · rw [Nat.min_eq_right h]
    rw [splice_all _ _ (by simp [numsA]; omega)]
    unfold sized
    rw [show z - l.length = 0 by omega]
    simp [numsA]
theorem splice_sized0 (z : Nat) : splice (List.replicate z (.int .u8 0)) 0 [] = numsA .u8 (sized [] z) := by
  rw [splice_nil]
  simp [sized, numsA]
theorem numsA_top (k : IntKind) : ∀ l : List Int, topL (numsA k l) = 0
  | [] => rfl
  | a :: l => by
    show max 0 (topL (numsA k l)) = 0
    rw [numsA_top k l]
    rfl
theorem numsA_take (k : IntKind) (l : List Int) (n : Nat) : (numsA k l).take n = numsA k (l.take n) := by simp [numsA]
/-- So many deeds. -/
def deedK (s : SetS) (ss sn : Int) (d : AV) (k : Nat) (x : NodeS) : NodeS := match k with
  | 0 => x
  | 1 => deed1 s ss sn x
  | 2 => deed2 s ss sn (deed1 s ss sn x)
  | 3 => deed3 s ss sn (deed2 s ss sn (deed1 s ss sn x))
  | 4 => deed4 s ss sn d (deed3 s ss sn (deed2 s ss sn (deed1 s ss sn x)))
  | 5 => deed5 s ss sn (deed4 s ss sn d (deed3 s ss sn (deed2 s ss sn (deed1 s ss sn x))))
  | _ => deeds s ss sn d x

set_option maxHeartbeats 8000000 in
theorem deeds_K (b0 b1 b4 b5 b6 b7 b8 b9 b10 b11 b12 b13 b14 b15 b16 b17 b18 b19 b20 : AB) (s : SetS) (ss sn : Int) (bo : Nat → Int) (n : Int) (m : Nat) (jmp : JumpF) (Q : AX → ST → Prop) (s0 : ST) (l : List NodeS) (x : NodeS) (hl : l.length ≤ 300) (hn0 : 0 ≤ n) (hn1 : n < l.length) (hx : l[n.toNat]? = some x) (hxd : rowOk .u8 x.data x.bytes) (hsz : 0 ≤ s.size) (hsm : s.hs = true → s.size ≤ 65536)
    (h0 : s0.norm (TE.keep 12 (firstR (loopAt Try.f12 1))) 24 = deedsS b0 b1 b4 b5 b6 b7 b8 b9 b10 b11 b12 b13 b14 b15 b16 b17 b18 b19 b20 s ss sn bo n (0, l, x))
    (hQ : ∀ L y, y = deeds s ss sn (.rsl 24 0 s.size.toNat (some s.size.toNat) 0) x → L[n.toNat]? = some y → L = l.set n.toNat y → Q (.exit 2) ⟨(deedsS b0 b1 b4 b5 b6 b7 b8 b9 b10 b11 b12 b13 b14 b15 b16 b17 b18 b19 b20 s ss sn bo n (6, L, y)).tmps.put 76 (.bool false), (deedsS b0 b1 b4 b5 b6 b7 b8 b9 b10 b11 b12 b13 b14 b15 b16 b17 b18 b19 b20 s ss sn bo n (6, L, y)).h⟩) :
    ∃ m', m' ≤ TE.fuel ∧ roundsK (codeK TE (evAll TE (m + 3)).1 12 jmp false (loopAt Try.f12 1)) (normK (TE.keep 12 (firstR (loopAt Try.f12 1))) 24) Q m' s0 := by
  refine ⟨7, Nat.le_of_ble_eq_true rfl, ?_⟩
  refine rounds_ind (deedsS b0 b1 b4 b5 b6 b7 b8 b9 b10 b11 b12 b13 b14 b15 b16 b17 b18 b19 b20 s ss sn bo n) (fun a => a.1 ≤ 6 ∧ a.2.2 = deedK s ss sn (.rsl 24 0 s.size.toNat (some s.size.toNat) 0) a.1 x ∧ a.2.1[n.toNat]? = some a.2.2 ∧ a.2.1 = l.set n.toNat a.2.2) (fun a => 6 - a.1) ?_ _ (0, l, x) _ ⟨Nat.zero_le _, rfl, hx, (by show l = l.set n.toNat x; exact (set_same hx).symm)⟩ (Nat.lt_succ_self 6) h0
  intro a m' hI ih
  obtain ⟨k, L, y⟩ := a
  dsimp only at hI ih
  obtain ⟨hk, hy, hLy, hL⟩ := hI
  have hLl : L.length = l.length := by rw [hL, List.length_set]
  have hget : ∀ z, (L.set n.toNat z)[n.toNat]? = some z := fun z => by rw [List.getElem?_set_self (by omega)]
  have hget2 : ∀ u z, ((L.set n.toNat u).set n.toNat z)[n.toNat]? = some z := fun u z => by rw [List.getElem?_set_self (by rw [List.length_set]; omega)]
  have hget3 : ∀ u v z, (((L.set n.toNat u).set n.toNat v).set n.toNat z)[n.toNat]? = some z := fun u v z => by rw [List.getElem?_set_self (by rw [List.length_set, List.length_set]; omega)]
  have hs1 : ∀ z, L.set n.toNat z = l.set n.toNat z := fun z => by rw [hL, List.set_set]
  have hs2 : ∀ u z, (L.set n.toNat u).set n.toNat z = l.set n.toNat z := fun u z => by rw [List.set_set, hs1]
  have hs3 : ∀ u v z, ((L.set n.toNat u).set n.toNat v).set n.toNat z = l.set n.toNat z := fun u v z => by rw [List.set_set, List.set_set, hs1]
  have hlen1 : ∀ z, (L.set n.toNat z).length = l.length := fun z => by rw [List.length_set, hLl]
  have hlen2 : ∀ u z, ((L.set n.toNat u).set n.toNat z).length = l.length := fun u z => by rw [List.length_set, hlen1]
  obtain ⟨hm, mode, hu, user, hg, group, hs, size, rh, rs, rn, wh, ws, wn⟩ := s
  dsimp only at hsz hsm
  obtain rfl | rfl | rfl | rfl | rfl | rfl | rfl : k = 0 ∨ k = 1 ∨ k = 2 ∨ k = 3 ∨ k = 4 ∨ k = 5 ∨ k = 6 := by omega
  · cases hm
    · cases hs
      · conv => whnf
        (refine call_inline (fn := Try.f40) rfl Try.func40 rfl rfl ?_)
        conv => whnf
        (refine call_inline (fn := Try.f41) rfl Try.func41 rfl rfl ?_)
        conv => whnf
        (refine ⟨by kernel_rfl, ?_⟩)
        conv => whnf
        (exact ih (1, L, y) _ ⟨Nat.le_of_ble_eq_true rfl, hy, hLy, hL⟩ (Nat.le_of_ble_eq_true rfl) (by kernel_rfl))
      · conv => whnf
        (refine call_inline (fn := Try.f40) rfl Try.func40 rfl rfl ?_)
        conv => whnf
        (refine call_inline (fn := Try.f41) rfl Try.func41 rfl rfl ?_)
        conv => whnf
        (refine ⟨by kernel_rfl, ?_⟩)
        conv => whnf
        (exact ih (1, L, y) _ ⟨Nat.le_of_ble_eq_true rfl, hy, hLy, hL⟩ (Nat.le_of_ble_eq_true rfl) (by kernel_rfl))
    · cases hs
      · conv => whnf
        (refine call_inline (fn := Try.f40) rfl Try.func40 rfl rfl ?_)
        conv => whnf
        (refine call_inline (fn := Try.f41) rfl Try.func41 rfl rfl ?_)
        conv => whnf
        (refine     runK_if ⟨rfl, rfl, (by show 0 + n.toNat * 25 + 2 + 1 ≤ (nodesA L).length; rw [nodesA_len, hLl]; omega), .inl rfl⟩       ?_)
        conv => whnf
        (refine     listK_of       (splice_nodes0 (k := 2) (x' :=         ⟨y.kind, y.gen, mode, y.user, y.group, y.links, y.rs, y.rn, y.ws, y.wn, y.ts, y.tn, y.data, y.bytes, y.verf,           y.target, y.list, y.ents, y.parent, y.next⟩)         hLy (Nat.le_of_ble_eq_true rfl) rfl)       ?_)
        conv => whnf
        (refine ⟨by kernel_rfl, ?_⟩)
        conv => whnf
        (refine     runK_if       ⟨rfl, rfl, (by show 0 + n.toNat * 25 + 10 + 2 ≤ (nodesA (L.set n.toNat _)).length; rw [nodesA_len, hlen1]; omega),         .inl rfl⟩       ?_)
        conv => whnf
        (refine     listK_of       (splice_nodes0 (k := 10) (x' :=         ⟨y.kind, y.gen, mode, y.user, y.group, y.links, y.rs, y.rn, y.ws, y.wn, ss, sn, y.data, y.bytes, y.verf,           y.target, y.list, y.ents, y.parent, y.next⟩)         (hget _) (Nat.le_of_ble_eq_true rfl) rfl)       ?_)
        conv => whnf
        (exact     ih       (1,         (L.set n.toNat               ⟨y.kind, y.gen, mode, y.user, y.group, y.links, y.rs, y.rn, y.ws, y.wn, y.ts, y.tn, y.data, y.bytes,                 y.verf, y.target, y.list, y.ents, y.parent, y.next⟩).set           n.toNat           ⟨y.kind, y.gen, mode, y.user, y.group, y.links, y.rs, y.rn, y.ws, y.wn, ss, sn, y.data, y.bytes, y.verf,             y.target, y.list, y.ents, y.parent, y.next⟩,         ⟨y.kind, y.gen, mode, y.user, y.group, y.links, y.rs, y.rn, y.ws, y.wn, ss, sn, y.data, y.bytes, y.verf,           y.target, y.list, y.ents, y.parent, y.next⟩)       _ ⟨Nat.le_of_ble_eq_true rfl, by rw [hy]; rfl, hget2 _ _, hs2 _ _⟩ (Nat.le_of_ble_eq_true rfl) (by kernel_rfl))
      · conv => whnf
        (refine call_inline (fn := Try.f40) rfl Try.func40 rfl rfl ?_)
        conv => whnf
        (refine call_inline (fn := Try.f41) rfl Try.func41 rfl rfl ?_)
        conv => whnf
        (refine     runK_if ⟨rfl, rfl, (by show 0 + n.toNat * 25 + 2 + 1 ≤ (nodesA L).length; rw [nodesA_len, hLl]; omega), .inl rfl⟩       ?_)
        conv => whnf
        (refine     listK_of       (splice_nodes0 (k := 2) (x' :=         ⟨y.kind, y.gen, mode, y.user, y.group, y.links, y.rs, y.rn, y.ws, y.wn, y.ts, y.tn, y.data, y.bytes, y.verf,           y.target, y.list, y.ents, y.parent, y.next⟩)         hLy (Nat.le_of_ble_eq_true rfl) rfl)       ?_)
        conv => whnf
        (refine ⟨by kernel_rfl, ?_⟩)
        conv => whnf
        (refine     runK_if       ⟨rfl, rfl, (by show 0 + n.toNat * 25 + 10 + 2 ≤ (nodesA (L.set n.toNat _)).length; rw [nodesA_len, hlen1]; omega),         .inl rfl⟩       ?_)
        conv => whnf
        (refine     listK_of       (splice_nodes0 (k := 10) (x' :=         ⟨y.kind, y.gen, mode, y.user, y.group, y.links, y.rs, y.rn, y.ws, y.wn, ss, sn, y.data, y.bytes, y.verf,           y.target, y.list, y.ents, y.parent, y.next⟩)         (hget _) (Nat.le_of_ble_eq_true rfl) rfl)       ?_)
        conv => whnf
        (exact     ih       (1,         (L.set n.toNat               ⟨y.kind, y.gen, mode, y.user, y.group, y.links, y.rs, y.rn, y.ws, y.wn, y.ts, y.tn, y.data, y.bytes,                 y.verf, y.target, y.list, y.ents, y.parent, y.next⟩).set           n.toNat           ⟨y.kind, y.gen, mode, y.user, y.group, y.links, y.rs, y.rn, y.ws, y.wn, ss, sn, y.data, y.bytes, y.verf,             y.target, y.list, y.ents, y.parent, y.next⟩,         ⟨y.kind, y.gen, mode, y.user, y.group, y.links, y.rs, y.rn, y.ws, y.wn, ss, sn, y.data, y.bytes, y.verf,           y.target, y.list, y.ents, y.parent, y.next⟩)       _ ⟨Nat.le_of_ble_eq_true rfl, by rw [hy]; rfl, hget2 _ _, hs2 _ _⟩ (Nat.le_of_ble_eq_true rfl) (by kernel_rfl))
  · cases hu
    · cases hs
      · conv => whnf
        (refine call_inline (fn := Try.f42) rfl Try.func42 rfl rfl ?_)
        conv => whnf
        (refine call_inline (fn := Try.f41) rfl Try.func41 rfl rfl ?_)
        conv => whnf
        (refine ⟨by kernel_rfl, ?_⟩)
        conv => whnf
        (exact ih (2, L, y) _ ⟨Nat.le_of_ble_eq_true rfl, hy, hLy, hL⟩ (Nat.le_of_ble_eq_true rfl) (by kernel_rfl))
      · conv => whnf
        (refine call_inline (fn := Try.f42) rfl Try.func42 rfl rfl ?_)
        conv => whnf
        (refine call_inline (fn := Try.f41) rfl Try.func41 rfl rfl ?_)
        conv => whnf
        (refine ⟨by kernel_rfl, ?_⟩)
        conv => whnf
        (exact ih (2, L, y) _ ⟨Nat.le_of_ble_eq_true rfl, hy, hLy, hL⟩ (Nat.le_of_ble_eq_true rfl) (by kernel_rfl))
    · cases hs
      · conv => whnf
        (refine call_inline (fn := Try.f42) rfl Try.func42 rfl rfl ?_)
        conv => whnf
        (refine call_inline (fn := Try.f41) rfl Try.func41 rfl rfl ?_)
        conv => whnf
        (refine     runK_if ⟨rfl, rfl, (by show 0 + n.toNat * 25 + 3 + 1 ≤ (nodesA L).length; rw [nodesA_len, hLl]; omega), .inl rfl⟩       ?_)
        conv => whnf
        (refine     listK_of       (splice_nodes0 (k := 3) (x' :=         ⟨y.kind, y.gen, y.mode, user, y.group, y.links, y.rs, y.rn, y.ws, y.wn, y.ts, y.tn, y.data, y.bytes, y.verf,           y.target, y.list, y.ents, y.parent, y.next⟩)         hLy (Nat.le_of_ble_eq_true rfl) rfl)       ?_)
        conv => whnf
        (refine ⟨by kernel_rfl, ?_⟩)
        conv => whnf
        (refine     runK_if       ⟨rfl, rfl, (by show 0 + n.toNat * 25 + 10 + 2 ≤ (nodesA (L.set n.toNat _)).length; rw [nodesA_len, hlen1]; omega),         .inl rfl⟩       ?_)
        conv => whnf
        (refine     listK_of       (splice_nodes0 (k := 10) (x' :=         ⟨y.kind, y.gen, y.mode, user, y.group, y.links, y.rs, y.rn, y.ws, y.wn, ss, sn, y.data, y.bytes, y.verf,           y.target, y.list, y.ents, y.parent, y.next⟩)         (hget _) (Nat.le_of_ble_eq_true rfl) rfl)       ?_)
        conv => whnf
        (exact     ih       (2,         (L.set n.toNat               ⟨y.kind, y.gen, y.mode, user, y.group, y.links, y.rs, y.rn, y.ws, y.wn, y.ts, y.tn, y.data, y.bytes,                 y.verf, y.target, y.list, y.ents, y.parent, y.next⟩).set           n.toNat           ⟨y.kind, y.gen, y.mode, user, y.group, y.links, y.rs, y.rn, y.ws, y.wn, ss, sn, y.data, y.bytes, y.verf,             y.target, y.list, y.ents, y.parent, y.next⟩,         ⟨y.kind, y.gen, y.mode, user, y.group, y.links, y.rs, y.rn, y.ws, y.wn, ss, sn, y.data, y.bytes, y.verf,           y.target, y.list, y.ents, y.parent, y.next⟩)       _ ⟨Nat.le_of_ble_eq_true rfl, by rw [hy]; rfl, hget2 _ _, hs2 _ _⟩ (Nat.le_of_ble_eq_true rfl) (by kernel_rfl))
      · conv => whnf
        (refine call_inline (fn := Try.f42) rfl Try.func42 rfl rfl ?_)
        conv => whnf
        (refine call_inline (fn := Try.f41) rfl Try.func41 rfl rfl ?_)
        conv => whnf
        (refine     runK_if ⟨rfl, rfl, (by show 0 + n.toNat * 25 + 3 + 1 ≤ (nodesA L).length; rw [nodesA_len, hLl]; omega), .inl rfl⟩       ?_)
        conv => whnf
        (refine     listK_of       (splice_nodes0 (k := 3) (x' :=         ⟨y.kind, y.gen, y.mode, user, y.group, y.links, y.rs, y.rn, y.ws, y.wn, y.ts, y.tn, y.data, y.bytes, y.verf,           y.target, y.list, y.ents, y.parent, y.next⟩)         hLy (Nat.le_of_ble_eq_true rfl) rfl)       ?_)
        conv => whnf
        (refine ⟨by kernel_rfl, ?_⟩)
        conv => whnf
        (refine     runK_if       ⟨rfl, rfl, (by show 0 + n.toNat * 25 + 10 + 2 ≤ (nodesA (L.set n.toNat _)).length; rw [nodesA_len, hlen1]; omega),         .inl rfl⟩       ?_)
        conv => whnf
        (refine     listK_of       (splice_nodes0 (k := 10) (x' :=         ⟨y.kind, y.gen, y.mode, user, y.group, y.links, y.rs, y.rn, y.ws, y.wn, ss, sn, y.data, y.bytes, y.verf,           y.target, y.list, y.ents, y.parent, y.next⟩)         (hget _) (Nat.le_of_ble_eq_true rfl) rfl)       ?_)
        conv => whnf
        (exact     ih       (2,         (L.set n.toNat               ⟨y.kind, y.gen, y.mode, user, y.group, y.links, y.rs, y.rn, y.ws, y.wn, y.ts, y.tn, y.data, y.bytes,                 y.verf, y.target, y.list, y.ents, y.parent, y.next⟩).set           n.toNat           ⟨y.kind, y.gen, y.mode, user, y.group, y.links, y.rs, y.rn, y.ws, y.wn, ss, sn, y.data, y.bytes, y.verf,             y.target, y.list, y.ents, y.parent, y.next⟩,         ⟨y.kind, y.gen, y.mode, user, y.group, y.links, y.rs, y.rn, y.ws, y.wn, ss, sn, y.data, y.bytes, y.verf,           y.target, y.list, y.ents, y.parent, y.next⟩)       _ ⟨Nat.le_of_ble_eq_true rfl, by rw [hy]; rfl, hget2 _ _, hs2 _ _⟩ (Nat.le_of_ble_eq_true rfl) (by kernel_rfl))
  · cases hg
    · cases hs
      · conv => whnf
        (refine call_inline (fn := Try.f43) rfl Try.func43 rfl rfl ?_)
        conv => whnf
        (refine call_inline (fn := Try.f41) rfl Try.func41 rfl rfl ?_)
        conv => whnf
        (refine ⟨by kernel_rfl, ?_⟩)
        conv => whnf
        (exact ih (3, L, y) _ ⟨Nat.le_of_ble_eq_true rfl, hy, hLy, hL⟩ (Nat.le_of_ble_eq_true rfl) (by kernel_rfl))
      · conv => whnf
        (refine call_inline (fn := Try.f43) rfl Try.func43 rfl rfl ?_)
        conv => whnf
        (refine call_inline (fn := Try.f41) rfl Try.func41 rfl rfl ?_)
        conv => whnf
        (refine ⟨by kernel_rfl, ?_⟩)
        conv => whnf
        (exact ih (3, L, y) _ ⟨Nat.le_of_ble_eq_true rfl, hy, hLy, hL⟩ (Nat.le_of_ble_eq_true rfl) (by kernel_rfl))
    · cases hs
      · conv => whnf
        (refine call_inline (fn := Try.f43) rfl Try.func43 rfl rfl ?_)
        conv => whnf
        (refine call_inline (fn := Try.f41) rfl Try.func41 rfl rfl ?_)
        conv => whnf
        (refine     runK_if ⟨rfl, rfl, (by show 0 + n.toNat * 25 + 4 + 1 ≤ (nodesA L).length; rw [nodesA_len, hLl]; omega), .inl rfl⟩       ?_)
        conv => whnf
        (refine     listK_of       (splice_nodes0 (k := 4) (x' :=         ⟨y.kind, y.gen, y.mode, y.user, group, y.links, y.rs, y.rn, y.ws, y.wn, y.ts, y.tn, y.data, y.bytes, y.verf,           y.target, y.list, y.ents, y.parent, y.next⟩)         hLy (Nat.le_of_ble_eq_true rfl) rfl)       ?_)
        conv => whnf
        (refine ⟨by kernel_rfl, ?_⟩)
        conv => whnf
        (refine     runK_if       ⟨rfl, rfl, (by show 0 + n.toNat * 25 + 10 + 2 ≤ (nodesA (L.set n.toNat _)).length; rw [nodesA_len, hlen1]; omega),         .inl rfl⟩       ?_)
        conv => whnf
        (refine     listK_of       (splice_nodes0 (k := 10) (x' :=         ⟨y.kind, y.gen, y.mode, y.user, group, y.links, y.rs, y.rn, y.ws, y.wn, ss, sn, y.data, y.bytes, y.verf,           y.target, y.list, y.ents, y.parent, y.next⟩)         (hget _) (Nat.le_of_ble_eq_true rfl) rfl)       ?_)
        conv => whnf
        (exact     ih       (3,         (L.set n.toNat               ⟨y.kind, y.gen, y.mode, y.user, group, y.links, y.rs, y.rn, y.ws, y.wn, y.ts, y.tn, y.data, y.bytes,                 y.verf, y.target, y.list, y.ents, y.parent, y.next⟩).set           n.toNat           ⟨y.kind, y.gen, y.mode, y.user, group, y.links, y.rs, y.rn, y.ws, y.wn, ss, sn, y.data, y.bytes, y.verf,             y.target, y.list, y.ents, y.parent, y.next⟩,         ⟨y.kind, y.gen, y.mode, y.user, group, y.links, y.rs, y.rn, y.ws, y.wn, ss, sn, y.data, y.bytes, y.verf,           y.target, y.list, y.ents, y.parent, y.next⟩)       _ ⟨Nat.le_of_ble_eq_true rfl, by rw [hy]; rfl, hget2 _ _, hs2 _ _⟩ (Nat.le_of_ble_eq_true rfl) (by kernel_rfl))
      · conv => whnf
        (refine call_inline (fn := Try.f43) rfl Try.func43 rfl rfl ?_)
        conv => whnf
        (refine call_inline (fn := Try.f41) rfl Try.func41 rfl rfl ?_)
        conv => whnf
        (refine     runK_if ⟨rfl, rfl, (by show 0 + n.toNat * 25 + 4 + 1 ≤ (nodesA L).length; rw [nodesA_len, hLl]; omega), .inl rfl⟩       ?_)
        conv => whnf
        (refine     listK_of       (splice_nodes0 (k := 4) (x' :=         ⟨y.kind, y.gen, y.mode, y.user, group, y.links, y.rs, y.rn, y.ws, y.wn, y.ts, y.tn, y.data, y.bytes, y.verf,           y.target, y.list, y.ents, y.parent, y.next⟩)         hLy (Nat.le_of_ble_eq_true rfl) rfl)       ?_)
        conv => whnf
        (refine ⟨by kernel_rfl, ?_⟩)
        conv => whnf
        (refine     runK_if       ⟨rfl, rfl, (by show 0 + n.toNat * 25 + 10 + 2 ≤ (nodesA (L.set n.toNat _)).length; rw [nodesA_len, hlen1]; omega),         .inl rfl⟩       ?_)
        conv => whnf
        (refine     listK_of       (splice_nodes0 (k := 10) (x' :=         ⟨y.kind, y.gen, y.mode, y.user, group, y.links, y.rs, y.rn, y.ws, y.wn, ss, sn, y.data, y.bytes, y.verf,           y.target, y.list, y.ents, y.parent, y.next⟩)         (hget _) (Nat.le_of_ble_eq_true rfl) rfl)       ?_)
        conv => whnf
        (exact     ih       (3,         (L.set n.toNat               ⟨y.kind, y.gen, y.mode, y.user, group, y.links, y.rs, y.rn, y.ws, y.wn, y.ts, y.tn, y.data, y.bytes,                 y.verf, y.target, y.list, y.ents, y.parent, y.next⟩).set           n.toNat           ⟨y.kind, y.gen, y.mode, y.user, group, y.links, y.rs, y.rn, y.ws, y.wn, ss, sn, y.data, y.bytes, y.verf,             y.target, y.list, y.ents, y.parent, y.next⟩,         ⟨y.kind, y.gen, y.mode, y.user, group, y.links, y.rs, y.rn, y.ws, y.wn, ss, sn, y.data, y.bytes, y.verf,           y.target, y.list, y.ents, y.parent, y.next⟩)       _ ⟨Nat.le_of_ble_eq_true rfl, by rw [hy]; rfl, hget2 _ _, hs2 _ _⟩ (Nat.le_of_ble_eq_true rfl) (by kernel_rfl))
  · cases hs
    · conv => whnf
      (refine call_inline (fn := Try.f44) rfl Try.func44 rfl rfl ?_)
      conv => whnf
      (refine call_inline (fn := Try.f45) rfl Try.func45 rfl rfl ?_)
      conv => whnf
      (refine ⟨by kernel_rfl, ?_⟩)
      conv => whnf
      (exact ih (4, L, y) _ ⟨Nat.le_of_ble_eq_true rfl, hy, hLy, hL⟩ (Nat.le_of_ble_eq_true rfl) (by kernel_rfl))
    · have hsm := hsm rfl
      obtain ⟨z, rfl⟩ : ∃ z : Nat, size = z := ⟨size.toNat, by omega⟩
      have hw : IntKind.wrap .i64 ((z : Nat) : Int) = z := wrap64 (by omega) (by omega)
      have hyd : y.data = x.data ∧ y.bytes = x.bytes := by
        rw [hy]
        simp only [deedK, deed1, deed2, deed3, apply_ite NodeS.data, apply_ite NodeS.bytes, ite_self, and_self]
      rw [← hyd.1, ← hyd.2] at hxd
      clear hyd
      obtain ⟨kd, ge, mo, us, ng, li, xrs, xrn, xws, xwn, ts, tn, da, by_, vf, ta, ls, es, pa, nx⟩ := y
      dsimp only at hxd
      rcases hxd with ⟨rfl, rfl⟩ | ⟨dt, rfl⟩
      · conv => whnf
        (refine call_inline (fn := Try.f44) rfl Try.func44 rfl rfl ?_)
        conv => whnf
        (refine     runK_ret       (ev_makeN (sz := 1) (by_ := 1) (n := z) (cs := List.replicate z (.int .u8 0)) rfl rfl rfl rfl         (congrArg (AV.int .i64) hw) (congrArg (AV.int .i64) hw) (by omega) (by omega) rfl (by decide) rfl rfl)       ?_)
        conv => whnf
        (refine runK_if rfl (runK_cell rfl (nodes_cell0 hLy 12 (by decide) rfl) (runK_ret rfl ?_)))
        conv => whnf
        (refine listK_of (splice_sized0 z) ?_)
        conv => whnf
        (refine     runK_if ⟨rfl, rfl, (by show 0 + n.toNat * 25 + 12 + 1 ≤ (nodesA L).length; rw [nodesA_len, hLl]; omega), .inl rfl⟩       ?_)
        conv => whnf
        (refine     listK_of       (splice_nodes0 (k := 12) (x' :=         ⟨kd, ge, mo, us, ng, li, xrs, xrn, xws, xwn, ts, tn, (.rsl 24 0 z (some z) 0), (sized [] z), vf, ta, ls, es, pa,           nx⟩)         hLy (Nat.le_of_ble_eq_true rfl) rfl)       ?_)
        conv => whnf
        (refine call_inline (fn := Try.f45) rfl Try.func45 rfl rfl ?_)
        conv => whnf
        (refine     runK_if       ⟨rfl, rfl, (by show 0 + n.toNat * 25 + 8 + 2 ≤ (nodesA (L.set n.toNat _)).length; rw [nodesA_len, hlen1]; omega),         .inl rfl⟩       ?_)
        conv => whnf
        (refine     listK_of       (splice_nodes0 (k := 8) (x' :=         ⟨kd, ge, mo, us, ng, li, xrs, xrn, ss, sn, ts, tn, (.rsl 24 0 z (some z) 0), (sized [] z), vf, ta, ls, es, pa,           nx⟩)         (hget _) (Nat.le_of_ble_eq_true rfl) rfl)       ?_)
        conv => whnf
        (refine ⟨by kernel_rfl, ?_⟩)
        conv => whnf
        (refine     runK_if       ⟨rfl, rfl,         (by show 0 + n.toNat * 25 + 10 + 2 ≤ (nodesA ((L.set n.toNat _).set n.toNat _)).length; rw [nodesA_len, hlen2];           omega),         .inl rfl⟩       ?_)
        conv => whnf
        (refine     listK_of       (splice_nodes0 (k := 10) (x' :=         ⟨kd, ge, mo, us, ng, li, xrs, xrn, ss, sn, ss, sn, (.rsl 24 0 z (some z) 0), (sized [] z), vf, ta, ls, es, pa,           nx⟩)         (hget2 _ _) (Nat.le_of_ble_eq_true rfl) rfl)       ?_)
        conv => whnf
        (exact     ih       (4,         ((L.set n.toNat                   ⟨kd, ge, mo, us, ng, li, xrs, xrn, xws, xwn, ts, tn, (.rsl 24 0 z (some z) 0), (sized [] z), vf, ta,                     ls, es, pa, nx⟩).set               n.toNat               ⟨kd, ge, mo, us, ng, li, xrs, xrn, ss, sn, ts, tn, (.rsl 24 0 z (some z) 0), (sized [] z), vf, ta, ls, es,                 pa, nx⟩).set           n.toNat           ⟨kd, ge, mo, us, ng, li, xrs, xrn, ss, sn, ss, sn, (.rsl 24 0 z (some z) 0), (sized [] z), vf, ta, ls, es, pa,             nx⟩,         ⟨kd, ge, mo, us, ng, li, xrs, xrn, ss, sn, ss, sn, (.rsl 24 0 z (some z) 0), (sized [] z), vf, ta, ls, es, pa,           nx⟩)       _       ⟨Nat.le_of_ble_eq_true rfl, by         rw [show             deedK ⟨hm, mode, hu, user, hg, group, true, z, rh, rs, rn, wh, ws, wn⟩ ss sn                 (.rsl 24 0 (Int.toNat z) (some (Int.toNat z)) 0) 4 x =               deed4 ⟨hm, mode, hu, user, hg, group, true, z, rh, rs, rn, wh, ws, wn⟩ ss sn                 (.rsl 24 0 (Int.toNat z) (some (Int.toNat z)) 0)                 (deedK ⟨hm, mode, hu, user, hg, group, true, z, rh, rs, rn, wh, ws, wn⟩ ss sn                   (.rsl 24 0 (Int.toNat z) (some (Int.toNat z)) 0) 3 x)             from rfl,           ← hy];         rfl, hget3 _ _ _, hs3 _ _ _⟩       (Nat.le_of_ble_eq_true rfl) (by kernel_rfl))
      · conv => whnf
        (refine call_inline (fn := Try.f44) rfl Try.func44 rfl rfl ?_)
        conv => whnf
        (refine     runK_ret       (ev_makeN (sz := 1) (by_ := 1) (n := z) (cs := List.replicate z (.int .u8 0)) rfl rfl rfl rfl         (congrArg (AV.int .i64) hw) (congrArg (AV.int .i64) hw) (by omega) (by omega) rfl (by decide) rfl rfl)       ?_)
        conv => whnf
        (refine runK_if rfl (runK_cell rfl (nodes_cell0 hLy 12 (by decide) rfl) (runK_ret rfl ?_)))
        conv => whnf
        (refine runK_copy_letter rfl rfl rfl rfl rfl rfl rfl (by simp [numsA]) (List.length_replicate ..) ?_; intro cs ck hcs)
        conv => whnf
        (refine     listK_of       (show splice (List.replicate z (.int .u8 0)) 0 cs = numsA .u8 (sized by_ z) by rw [hcs]; exact splice_sized by_ z)       ?_)
        conv => whnf
        (refine listK_of (if_pos (show topL cs ≤ _ by rw [hcs, numsA_take, numsA_top]; exact Nat.zero_le _)) ?_)
        conv => whnf
        (refine     runK_if ⟨rfl, rfl, (by show 0 + n.toNat * 25 + 12 + 1 ≤ (nodesA L).length; rw [nodesA_len, hLl]; omega), .inl rfl⟩       ?_)
        conv => whnf
        (refine     listK_of       (splice_nodes0 (k := 12) (x' :=         ⟨kd, ge, mo, us, ng, li, xrs, xrn, xws, xwn, ts, tn, (.rsl 24 0 z (some z) 0), (sized by_ z), vf, ta, ls, es,           pa, nx⟩)         hLy (Nat.le_of_ble_eq_true rfl) rfl)       ?_)
        conv => whnf
        (refine call_inline (fn := Try.f45) rfl Try.func45 rfl rfl ?_)
        conv => whnf
        (refine     runK_if       ⟨rfl, rfl, (by show 0 + n.toNat * 25 + 8 + 2 ≤ (nodesA (L.set n.toNat _)).length; rw [nodesA_len, hlen1]; omega),         .inl rfl⟩       ?_)
        conv => whnf
        (refine     listK_of       (splice_nodes0 (k := 8) (x' :=         ⟨kd, ge, mo, us, ng, li, xrs, xrn, ss, sn, ts, tn, (.rsl 24 0 z (some z) 0), (sized by_ z), vf, ta, ls, es, pa,           nx⟩)         (hget _) (Nat.le_of_ble_eq_true rfl) rfl)       ?_)
        conv => whnf
        (refine ⟨by kernel_rfl, ?_⟩)
        conv => whnf
        (refine     runK_if       ⟨rfl, rfl,         (by show 0 + n.toNat * 25 + 10 + 2 ≤ (nodesA ((L.set n.toNat _).set n.toNat _)).length; rw [nodesA_len, hlen2];           omega),         .inl rfl⟩       ?_)
        conv => whnf
        (refine     listK_of       (splice_nodes0 (k := 10) (x' :=         ⟨kd, ge, mo, us, ng, li, xrs, xrn, ss, sn, ss, sn, (.rsl 24 0 z (some z) 0), (sized by_ z), vf, ta, ls, es, pa,           nx⟩)         (hget2 _ _) (Nat.le_of_ble_eq_true rfl) rfl)       ?_)
        conv => whnf
        (exact     ih       (4,         ((L.set n.toNat                   ⟨kd, ge, mo, us, ng, li, xrs, xrn, xws, xwn, ts, tn, (.rsl 24 0 z (some z) 0), (sized by_ z), vf, ta,                     ls, es, pa, nx⟩).set               n.toNat               ⟨kd, ge, mo, us, ng, li, xrs, xrn, ss, sn, ts, tn, (.rsl 24 0 z (some z) 0), (sized by_ z), vf, ta, ls,                 es, pa, nx⟩).set           n.toNat           ⟨kd, ge, mo, us, ng, li, xrs, xrn, ss, sn, ss, sn, (.rsl 24 0 z (some z) 0), (sized by_ z), vf, ta, ls, es,             pa, nx⟩,         ⟨kd, ge, mo, us, ng, li, xrs, xrn, ss, sn, ss, sn, (.rsl 24 0 z (some z) 0), (sized by_ z), vf, ta, ls, es, pa,           nx⟩)       _       ⟨Nat.le_of_ble_eq_true rfl, by         rw [show             deedK ⟨hm, mode, hu, user, hg, group, true, z, rh, rs, rn, wh, ws, wn⟩ ss sn                 (.rsl 24 0 (Int.toNat z) (some (Int.toNat z)) 0) 4 x =               deed4 ⟨hm, mode, hu, user, hg, group, true, z, rh, rs, rn, wh, ws, wn⟩ ss sn                 (.rsl 24 0 (Int.toNat z) (some (Int.toNat z)) 0)                 (deedK ⟨hm, mode, hu, user, hg, group, true, z, rh, rs, rn, wh, ws, wn⟩ ss sn                   (.rsl 24 0 (Int.toNat z) (some (Int.toNat z)) 0) 3 x)             from rfl,           ← hy];         rfl, hget3 _ _ _, hs3 _ _ _⟩       (Nat.le_of_ble_eq_true rfl) (by kernel_rfl))
  · cases q1 : rh == (2 : Int)
    · cases q2 : rh == (1 : Int)
      · cases hs
        · conv => whnf
          (refine call_inline (fn := Try.f46) rfl Try.func46 rfl rfl ?_)
          conv => whnf
          (refine call_inline (fn := Try.f45) rfl Try.func45 rfl rfl ?_)
          conv => whnf
          cases z0 : rh == Int.ofNat 2
          · conv => whnf
            (refine call_inline (fn := Try.f45) rfl Try.func45 rfl rfl ?_)
            conv => whnf
            cases z1 : rh == Int.ofNat 1
            · conv => whnf
              (refine ⟨by kernel_rfl, ?_⟩)
              conv => whnf
              (exact     ih (5, L, y) _       ⟨Nat.le_of_ble_eq_true rfl, by         rw [show             deedK ⟨hm, mode, hu, user, hg, group, false, size, rh, rs, rn, wh, ws, wn⟩ ss sn                 (.rsl 24 0 size.toNat (some size.toNat) 0) 5 x =               deed5 ⟨hm, mode, hu, user, hg, group, false, size, rh, rs, rn, wh, ws, wn⟩ ss sn                 (deedK ⟨hm, mode, hu, user, hg, group, false, size, rh, rs, rn, wh, ws, wn⟩ ss sn                   (.rsl 24 0 size.toNat (some size.toNat) 0) 4 x)             from rfl,           ← hy];         unfold deed5; dsimp only; rw [q1, q2]; rfl, hLy, hL⟩       (Nat.le_of_ble_eq_true rfl) (by kernel_rfl))
            · exact Bool.noConfusion (Eq.trans (Eq.symm z1) q2)
          · exact Bool.noConfusion (Eq.trans (Eq.symm z0) q1)
        · conv => whnf
          (refine call_inline (fn := Try.f46) rfl Try.func46 rfl rfl ?_)
          conv => whnf
          (refine call_inline (fn := Try.f45) rfl Try.func45 rfl rfl ?_)
          conv => whnf
          cases z0 : rh == Int.ofNat 2
          · conv => whnf
            (refine call_inline (fn := Try.f45) rfl Try.func45 rfl rfl ?_)
            conv => whnf
            cases z1 : rh == Int.ofNat 1
            · conv => whnf
              (refine ⟨by kernel_rfl, ?_⟩)
              conv => whnf
              (exact     ih (5, L, y) _       ⟨Nat.le_of_ble_eq_true rfl, by         rw [show             deedK ⟨hm, mode, hu, user, hg, group, true, size, rh, rs, rn, wh, ws, wn⟩ ss sn                 (.rsl 24 0 size.toNat (some size.toNat) 0) 5 x =               deed5 ⟨hm, mode, hu, user, hg, group, true, size, rh, rs, rn, wh, ws, wn⟩ ss sn                 (deedK ⟨hm, mode, hu, user, hg, group, true, size, rh, rs, rn, wh, ws, wn⟩ ss sn                   (.rsl 24 0 size.toNat (some size.toNat) 0) 4 x)             from rfl,           ← hy];         unfold deed5; dsimp only; rw [q1, q2]; rfl, hLy, hL⟩       (Nat.le_of_ble_eq_true rfl) (by kernel_rfl))
            · exact Bool.noConfusion (Eq.trans (Eq.symm z1) q2)
          · exact Bool.noConfusion (Eq.trans (Eq.symm z0) q1)
      · cases hs
        · conv => whnf
          (refine call_inline (fn := Try.f46) rfl Try.func46 rfl rfl ?_)
          conv => whnf
          (refine call_inline (fn := Try.f45) rfl Try.func45 rfl rfl ?_)
          conv => whnf
          cases z0 : rh == Int.ofNat 2
          · conv => whnf
            (refine call_inline (fn := Try.f45) rfl Try.func45 rfl rfl ?_)
            conv => whnf
            cases z1 : rh == Int.ofNat 1
            · exact Bool.noConfusion (Eq.trans (Eq.symm z1) q2)
            · conv => whnf
              (refine     runK_if ⟨rfl, rfl, (by show 0 + n.toNat * 25 + 6 + 2 ≤ (nodesA L).length; rw [nodesA_len, hLl]; omega), .inl rfl⟩       ?_)
              conv => whnf
              (refine     listK_of       (splice_nodes0 (k := 6) (x' :=         ⟨y.kind, y.gen, y.mode, y.user, y.group, y.links, ss, sn, y.ws, y.wn, y.ts, y.tn, y.data, y.bytes, y.verf,           y.target, y.list, y.ents, y.parent, y.next⟩)         hLy (Nat.le_of_ble_eq_true rfl) rfl)       ?_)
              conv => whnf
              (refine ⟨by kernel_rfl, ?_⟩)
              conv => whnf
              (refine     runK_if       ⟨rfl, rfl, (by show 0 + n.toNat * 25 + 10 + 2 ≤ (nodesA (L.set n.toNat _)).length; rw [nodesA_len, hlen1]; omega),         .inl rfl⟩       ?_)
              conv => whnf
              (refine     listK_of       (splice_nodes0 (k := 10) (x' :=         ⟨y.kind, y.gen, y.mode, y.user, y.group, y.links, ss, sn, y.ws, y.wn, ss, sn, y.data, y.bytes, y.verf, y.target,           y.list, y.ents, y.parent, y.next⟩)         (hget _) (Nat.le_of_ble_eq_true rfl) rfl)       ?_)
              conv => whnf
              (exact     ih       (5,         (L.set n.toNat               ⟨y.kind, y.gen, y.mode, y.user, y.group, y.links, ss, sn, y.ws, y.wn, y.ts, y.tn, y.data, y.bytes, y.verf,                 y.target, y.list, y.ents, y.parent, y.next⟩).set           n.toNat           ⟨y.kind, y.gen, y.mode, y.user, y.group, y.links, ss, sn, y.ws, y.wn, ss, sn, y.data, y.bytes, y.verf,             y.target, y.list, y.ents, y.parent, y.next⟩,         ⟨y.kind, y.gen, y.mode, y.user, y.group, y.links, ss, sn, y.ws, y.wn, ss, sn, y.data, y.bytes, y.verf, y.target,           y.list, y.ents, y.parent, y.next⟩)       _       ⟨Nat.le_of_ble_eq_true rfl, by         rw [show             deedK ⟨hm, mode, hu, user, hg, group, false, size, rh, rs, rn, wh, ws, wn⟩ ss sn                 (.rsl 24 0 size.toNat (some size.toNat) 0) 5 x =               deed5 ⟨hm, mode, hu, user, hg, group, false, size, rh, rs, rn, wh, ws, wn⟩ ss sn                 (deedK ⟨hm, mode, hu, user, hg, group, false, size, rh, rs, rn, wh, ws, wn⟩ ss sn                   (.rsl 24 0 size.toNat (some size.toNat) 0) 4 x)             from rfl,           ← hy];         unfold deed5; dsimp only; rw [q1, q2]; rfl, hget2 _ _, hs2 _ _⟩       (Nat.le_of_ble_eq_true rfl) (by kernel_rfl))
          · exact Bool.noConfusion (Eq.trans (Eq.symm z0) q1)
        · conv => whnf
          (refine call_inline (fn := Try.f46) rfl Try.func46 rfl rfl ?_)
          conv => whnf
          (refine call_inline (fn := Try.f45) rfl Try.func45 rfl rfl ?_)
          conv => whnf
          cases z0 : rh == Int.ofNat 2
          · conv => whnf
            (refine call_inline (fn := Try.f45) rfl Try.func45 rfl rfl ?_)
            conv => whnf
            cases z1 : rh == Int.ofNat 1
            · exact Bool.noConfusion (Eq.trans (Eq.symm z1) q2)
            · conv => whnf
              (refine     runK_if ⟨rfl, rfl, (by show 0 + n.toNat * 25 + 6 + 2 ≤ (nodesA L).length; rw [nodesA_len, hLl]; omega), .inl rfl⟩       ?_)
              conv => whnf
              (refine     listK_of       (splice_nodes0 (k := 6) (x' :=         ⟨y.kind, y.gen, y.mode, y.user, y.group, y.links, ss, sn, y.ws, y.wn, y.ts, y.tn, y.data, y.bytes, y.verf,           y.target, y.list, y.ents, y.parent, y.next⟩)         hLy (Nat.le_of_ble_eq_true rfl) rfl)       ?_)
              conv => whnf
              (refine ⟨by kernel_rfl, ?_⟩)
              conv => whnf
              (refine     runK_if       ⟨rfl, rfl, (by show 0 + n.toNat * 25 + 10 + 2 ≤ (nodesA (L.set n.toNat _)).length; rw [nodesA_len, hlen1]; omega),         .inl rfl⟩       ?_)
              conv => whnf
              (refine     listK_of       (splice_nodes0 (k := 10) (x' :=         ⟨y.kind, y.gen, y.mode, y.user, y.group, y.links, ss, sn, y.ws, y.wn, ss, sn, y.data, y.bytes, y.verf, y.target,           y.list, y.ents, y.parent, y.next⟩)         (hget _) (Nat.le_of_ble_eq_true rfl) rfl)       ?_)
              conv => whnf
              (exact     ih       (5,         (L.set n.toNat               ⟨y.kind, y.gen, y.mode, y.user, y.group, y.links, ss, sn, y.ws, y.wn, y.ts, y.tn, y.data, y.bytes, y.verf,                 y.target, y.list, y.ents, y.parent, y.next⟩).set           n.toNat           ⟨y.kind, y.gen, y.mode, y.user, y.group, y.links, ss, sn, y.ws, y.wn, ss, sn, y.data, y.bytes, y.verf,             y.target, y.list, y.ents, y.parent, y.next⟩,         ⟨y.kind, y.gen, y.mode, y.user, y.group, y.links, ss, sn, y.ws, y.wn, ss, sn, y.data, y.bytes, y.verf, y.target,           y.list, y.ents, y.parent, y.next⟩)       _       ⟨Nat.le_of_ble_eq_true rfl, by         rw [show             deedK ⟨hm, mode, hu, user, hg, group, true, size, rh, rs, rn, wh, ws, wn⟩ ss sn                 (.rsl 24 0 size.toNat (some size.toNat) 0) 5 x =               deed5 ⟨hm, mode, hu, user, hg, group, true, size, rh, rs, rn, wh, ws, wn⟩ ss sn                 (deedK ⟨hm, mode, hu, user, hg, group, true, size, rh, rs, rn, wh, ws, wn⟩ ss sn                   (.rsl 24 0 size.toNat (some size.toNat) 0) 4 x)             from rfl,           ← hy];         unfold deed5; dsimp only; rw [q1, q2]; rfl, hget2 _ _, hs2 _ _⟩       (Nat.le_of_ble_eq_true rfl) (by kernel_rfl))
          · exact Bool.noConfusion (Eq.trans (Eq.symm z0) q1)
    · cases hs
      · conv => whnf
        (refine call_inline (fn := Try.f46) rfl Try.func46 rfl rfl ?_)
        conv => whnf
        (refine call_inline (fn := Try.f45) rfl Try.func45 rfl rfl ?_)
        conv => whnf
        cases z0 : rh == Int.ofNat 2
        · exact Bool.noConfusion (Eq.trans (Eq.symm z0) q1)
        · conv => whnf
          (refine     runK_if ⟨rfl, rfl, (by show 0 + n.toNat * 25 + 6 + 2 ≤ (nodesA L).length; rw [nodesA_len, hLl]; omega), .inl rfl⟩       ?_)
          conv => whnf
          (refine     listK_of       (splice_nodes0 (k := 6) (x' :=         ⟨y.kind, y.gen, y.mode, y.user, y.group, y.links, rs, rn, y.ws, y.wn, y.ts, y.tn, y.data, y.bytes, y.verf,           y.target, y.list, y.ents, y.parent, y.next⟩)         hLy (Nat.le_of_ble_eq_true rfl) rfl)       ?_)
          conv => whnf
          (refine ⟨by kernel_rfl, ?_⟩)
          conv => whnf
          (refine     runK_if       ⟨rfl, rfl, (by show 0 + n.toNat * 25 + 10 + 2 ≤ (nodesA (L.set n.toNat _)).length; rw [nodesA_len, hlen1]; omega),         .inl rfl⟩       ?_)
          conv => whnf
          (refine     listK_of       (splice_nodes0 (k := 10) (x' :=         ⟨y.kind, y.gen, y.mode, y.user, y.group, y.links, rs, rn, y.ws, y.wn, ss, sn, y.data, y.bytes, y.verf, y.target,           y.list, y.ents, y.parent, y.next⟩)         (hget _) (Nat.le_of_ble_eq_true rfl) rfl)       ?_)
          conv => whnf
          (exact     ih       (5,         (L.set n.toNat               ⟨y.kind, y.gen, y.mode, y.user, y.group, y.links, rs, rn, y.ws, y.wn, y.ts, y.tn, y.data, y.bytes, y.verf,                 y.target, y.list, y.ents, y.parent, y.next⟩).set           n.toNat           ⟨y.kind, y.gen, y.mode, y.user, y.group, y.links, rs, rn, y.ws, y.wn, ss, sn, y.data, y.bytes, y.verf,             y.target, y.list, y.ents, y.parent, y.next⟩,         ⟨y.kind, y.gen, y.mode, y.user, y.group, y.links, rs, rn, y.ws, y.wn, ss, sn, y.data, y.bytes, y.verf, y.target,           y.list, y.ents, y.parent, y.next⟩)       _       ⟨Nat.le_of_ble_eq_true rfl, by         rw [show             deedK ⟨hm, mode, hu, user, hg, group, false, size, rh, rs, rn, wh, ws, wn⟩ ss sn                 (.rsl 24 0 size.toNat (some size.toNat) 0) 5 x =               deed5 ⟨hm, mode, hu, user, hg, group, false, size, rh, rs, rn, wh, ws, wn⟩ ss sn                 (deedK ⟨hm, mode, hu, user, hg, group, false, size, rh, rs, rn, wh, ws, wn⟩ ss sn                   (.rsl 24 0 size.toNat (some size.toNat) 0) 4 x)             from rfl,           ← hy];         unfold deed5; dsimp only; rw [q1]; rfl, hget2 _ _, hs2 _ _⟩       (Nat.le_of_ble_eq_true rfl) (by kernel_rfl))
      · conv => whnf
        (refine call_inline (fn := Try.f46) rfl Try.func46 rfl rfl ?_)
        conv => whnf
        (refine call_inline (fn := Try.f45) rfl Try.func45 rfl rfl ?_)
        conv => whnf
        cases z0 : rh == Int.ofNat 2
        · exact Bool.noConfusion (Eq.trans (Eq.symm z0) q1)
        · conv => whnf
          (refine     runK_if ⟨rfl, rfl, (by show 0 + n.toNat * 25 + 6 + 2 ≤ (nodesA L).length; rw [nodesA_len, hLl]; omega), .inl rfl⟩       ?_)
          conv => whnf
          (refine     listK_of       (splice_nodes0 (k := 6) (x' :=         ⟨y.kind, y.gen, y.mode, y.user, y.group, y.links, rs, rn, y.ws, y.wn, y.ts, y.tn, y.data, y.bytes, y.verf,           y.target, y.list, y.ents, y.parent, y.next⟩)         hLy (Nat.le_of_ble_eq_true rfl) rfl)       ?_)
          conv => whnf
          (refine ⟨by kernel_rfl, ?_⟩)
          conv => whnf
          (refine     runK_if       ⟨rfl, rfl, (by show 0 + n.toNat * 25 + 10 + 2 ≤ (nodesA (L.set n.toNat _)).length; rw [nodesA_len, hlen1]; omega),         .inl rfl⟩       ?_)
          conv => whnf
          (refine     listK_of       (splice_nodes0 (k := 10) (x' :=         ⟨y.kind, y.gen, y.mode, y.user, y.group, y.links, rs, rn, y.ws, y.wn, ss, sn, y.data, y.bytes, y.verf, y.target,           y.list, y.ents, y.parent, y.next⟩)         (hget _) (Nat.le_of_ble_eq_true rfl) rfl)       ?_)
          conv => whnf
          (exact     ih       (5,         (L.set n.toNat               ⟨y.kind, y.gen, y.mode, y.user, y.group, y.links, rs, rn, y.ws, y.wn, y.ts, y.tn, y.data, y.bytes, y.verf,                 y.target, y.list, y.ents, y.parent, y.next⟩).set           n.toNat           ⟨y.kind, y.gen, y.mode, y.user, y.group, y.links, rs, rn, y.ws, y.wn, ss, sn, y.data, y.bytes, y.verf,             y.target, y.list, y.ents, y.parent, y.next⟩,         ⟨y.kind, y.gen, y.mode, y.user, y.group, y.links, rs, rn, y.ws, y.wn, ss, sn, y.data, y.bytes, y.verf, y.target,           y.list, y.ents, y.parent, y.next⟩)       _       ⟨Nat.le_of_ble_eq_true rfl, by         rw [show             deedK ⟨hm, mode, hu, user, hg, group, true, size, rh, rs, rn, wh, ws, wn⟩ ss sn                 (.rsl 24 0 size.toNat (some size.toNat) 0) 5 x =               deed5 ⟨hm, mode, hu, user, hg, group, true, size, rh, rs, rn, wh, ws, wn⟩ ss sn                 (deedK ⟨hm, mode, hu, user, hg, group, true, size, rh, rs, rn, wh, ws, wn⟩ ss sn                   (.rsl 24 0 size.toNat (some size.toNat) 0) 4 x)             from rfl,           ← hy];         unfold deed5; dsimp only; rw [q1]; rfl, hget2 _ _, hs2 _ _⟩       (Nat.le_of_ble_eq_true rfl) (by kernel_rfl))
  · cases q1 : wh == (2 : Int)
    · cases q2 : wh == (1 : Int)
      · cases hs
        · conv => whnf
          (refine call_inline (fn := Try.f47) rfl Try.func47 rfl rfl ?_)
          conv => whnf
          (refine call_inline (fn := Try.f45) rfl Try.func45 rfl rfl ?_)
          conv => whnf
          cases z0 : wh == Int.ofNat 2
          · conv => whnf
            (refine call_inline (fn := Try.f45) rfl Try.func45 rfl rfl ?_)
            conv => whnf
            cases z1 : wh == Int.ofNat 1
            · conv => whnf
              (refine ⟨by kernel_rfl, ?_⟩)
              conv => whnf
              (exact     ih (6, L, y) _       ⟨Nat.le_of_ble_eq_true rfl, by         rw [show             deedK ⟨hm, mode, hu, user, hg, group, false, size, rh, rs, rn, wh, ws, wn⟩ ss sn                 (.rsl 24 0 size.toNat (some size.toNat) 0) 6 x =               deed6 ⟨hm, mode, hu, user, hg, group, false, size, rh, rs, rn, wh, ws, wn⟩ ss sn                 (deedK ⟨hm, mode, hu, user, hg, group, false, size, rh, rs, rn, wh, ws, wn⟩ ss sn                   (.rsl 24 0 size.toNat (some size.toNat) 0) 5 x)             from rfl,           ← hy];         unfold deed6; dsimp only; rw [q1, q2]; rfl, hLy, hL⟩       (Nat.le_of_ble_eq_true rfl) (by kernel_rfl))
            · exact Bool.noConfusion (Eq.trans (Eq.symm z1) q2)
          · exact Bool.noConfusion (Eq.trans (Eq.symm z0) q1)
        · conv => whnf
          (refine call_inline (fn := Try.f47) rfl Try.func47 rfl rfl ?_)
          conv => whnf
          (refine call_inline (fn := Try.f45) rfl Try.func45 rfl rfl ?_)
          conv => whnf
          cases z0 : wh == Int.ofNat 2
          · conv => whnf
            (refine call_inline (fn := Try.f45) rfl Try.func45 rfl rfl ?_)
            conv => whnf
            cases z1 : wh == Int.ofNat 1
            · conv => whnf
              (refine ⟨by kernel_rfl, ?_⟩)
              conv => whnf
              (exact     ih (6, L, y) _       ⟨Nat.le_of_ble_eq_true rfl, by         rw [show             deedK ⟨hm, mode, hu, user, hg, group, true, size, rh, rs, rn, wh, ws, wn⟩ ss sn                 (.rsl 24 0 size.toNat (some size.toNat) 0) 6 x =               deed6 ⟨hm, mode, hu, user, hg, group, true, size, rh, rs, rn, wh, ws, wn⟩ ss sn                 (deedK ⟨hm, mode, hu, user, hg, group, true, size, rh, rs, rn, wh, ws, wn⟩ ss sn                   (.rsl 24 0 size.toNat (some size.toNat) 0) 5 x)             from rfl,           ← hy];         unfold deed6; dsimp only; rw [q1, q2]; rfl, hLy, hL⟩       (Nat.le_of_ble_eq_true rfl) (by kernel_rfl))
            · exact Bool.noConfusion (Eq.trans (Eq.symm z1) q2)
          · exact Bool.noConfusion (Eq.trans (Eq.symm z0) q1)
      · cases hs
        · conv => whnf
          (refine call_inline (fn := Try.f47) rfl Try.func47 rfl rfl ?_)
          conv => whnf
          (refine call_inline (fn := Try.f45) rfl Try.func45 rfl rfl ?_)
          conv => whnf
          cases z0 : wh == Int.ofNat 2
          · conv => whnf
            (refine call_inline (fn := Try.f45) rfl Try.func45 rfl rfl ?_)
            conv => whnf
            cases z1 : wh == Int.ofNat 1
            · exact Bool.noConfusion (Eq.trans (Eq.symm z1) q2)
            · conv => whnf
              (refine     runK_if ⟨rfl, rfl, (by show 0 + n.toNat * 25 + 8 + 2 ≤ (nodesA L).length; rw [nodesA_len, hLl]; omega), .inl rfl⟩       ?_)
              conv => whnf
              (refine     listK_of       (splice_nodes0 (k := 8) (x' :=         ⟨y.kind, y.gen, y.mode, y.user, y.group, y.links, y.rs, y.rn, ss, sn, y.ts, y.tn, y.data, y.bytes, y.verf,           y.target, y.list, y.ents, y.parent, y.next⟩)         hLy (Nat.le_of_ble_eq_true rfl) rfl)       ?_)
              conv => whnf
              (refine ⟨by kernel_rfl, ?_⟩)
              conv => whnf
              (refine     runK_if       ⟨rfl, rfl, (by show 0 + n.toNat * 25 + 10 + 2 ≤ (nodesA (L.set n.toNat _)).length; rw [nodesA_len, hlen1]; omega),         .inl rfl⟩       ?_)
              conv => whnf
              (refine     listK_of       (splice_nodes0 (k := 10) (x' :=         ⟨y.kind, y.gen, y.mode, y.user, y.group, y.links, y.rs, y.rn, ss, sn, ss, sn, y.data, y.bytes, y.verf, y.target,           y.list, y.ents, y.parent, y.next⟩)         (hget _) (Nat.le_of_ble_eq_true rfl) rfl)       ?_)
              conv => whnf
              (exact     ih       (6,         (L.set n.toNat               ⟨y.kind, y.gen, y.mode, y.user, y.group, y.links, y.rs, y.rn, ss, sn, y.ts, y.tn, y.data, y.bytes, y.verf,                 y.target, y.list, y.ents, y.parent, y.next⟩).set           n.toNat           ⟨y.kind, y.gen, y.mode, y.user, y.group, y.links, y.rs, y.rn, ss, sn, ss, sn, y.data, y.bytes, y.verf,             y.target, y.list, y.ents, y.parent, y.next⟩,         ⟨y.kind, y.gen, y.mode, y.user, y.group, y.links, y.rs, y.rn, ss, sn, ss, sn, y.data, y.bytes, y.verf, y.target,           y.list, y.ents, y.parent, y.next⟩)       _       ⟨Nat.le_of_ble_eq_true rfl, by         rw [show             deedK ⟨hm, mode, hu, user, hg, group, false, size, rh, rs, rn, wh, ws, wn⟩ ss sn                 (.rsl 24 0 size.toNat (some size.toNat) 0) 6 x =               deed6 ⟨hm, mode, hu, user, hg, group, false, size, rh, rs, rn, wh, ws, wn⟩ ss sn                 (deedK ⟨hm, mode, hu, user, hg, group, false, size, rh, rs, rn, wh, ws, wn⟩ ss sn                   (.rsl 24 0 size.toNat (some size.toNat) 0) 5 x)             from rfl,           ← hy];         unfold deed6; dsimp only; rw [q1, q2]; rfl, hget2 _ _, hs2 _ _⟩       (Nat.le_of_ble_eq_true rfl) (by kernel_rfl))
          · exact Bool.noConfusion (Eq.trans (Eq.symm z0) q1)
        · conv => whnf
          (refine call_inline (fn := Try.f47) rfl Try.func47 rfl rfl ?_)
          conv => whnf
          (refine call_inline (fn := Try.f45) rfl Try.func45 rfl rfl ?_)
          conv => whnf
          cases z0 : wh == Int.ofNat 2
          · conv => whnf
            (refine call_inline (fn := Try.f45) rfl Try.func45 rfl rfl ?_)
            conv => whnf
            cases z1 : wh == Int.ofNat 1
            · exact Bool.noConfusion (Eq.trans (Eq.symm z1) q2)
            · conv => whnf
              (refine     runK_if ⟨rfl, rfl, (by show 0 + n.toNat * 25 + 8 + 2 ≤ (nodesA L).length; rw [nodesA_len, hLl]; omega), .inl rfl⟩       ?_)
              conv => whnf
              (refine     listK_of       (splice_nodes0 (k := 8) (x' :=         ⟨y.kind, y.gen, y.mode, y.user, y.group, y.links, y.rs, y.rn, ss, sn, y.ts, y.tn, y.data, y.bytes, y.verf,           y.target, y.list, y.ents, y.parent, y.next⟩)         hLy (Nat.le_of_ble_eq_true rfl) rfl)       ?_)
              conv => whnf
              (refine ⟨by kernel_rfl, ?_⟩)
              conv => whnf
              (refine     runK_if       ⟨rfl, rfl, (by show 0 + n.toNat * 25 + 10 + 2 ≤ (nodesA (L.set n.toNat _)).length; rw [nodesA_len, hlen1]; omega),         .inl rfl⟩       ?_)
              conv => whnf
              (refine     listK_of       (splice_nodes0 (k := 10) (x' :=         ⟨y.kind, y.gen, y.mode, y.user, y.group, y.links, y.rs, y.rn, ss, sn, ss, sn, y.data, y.bytes, y.verf, y.target,           y.list, y.ents, y.parent, y.next⟩)         (hget _) (Nat.le_of_ble_eq_true rfl) rfl)       ?_)
              conv => whnf
              (exact     ih       (6,         (L.set n.toNat               ⟨y.kind, y.gen, y.mode, y.user, y.group, y.links, y.rs, y.rn, ss, sn, y.ts, y.tn, y.data, y.bytes, y.verf,                 y.target, y.list, y.ents, y.parent, y.next⟩).set           n.toNat           ⟨y.kind, y.gen, y.mode, y.user, y.group, y.links, y.rs, y.rn, ss, sn, ss, sn, y.data, y.bytes, y.verf,             y.target, y.list, y.ents, y.parent, y.next⟩,         ⟨y.kind, y.gen, y.mode, y.user, y.group, y.links, y.rs, y.rn, ss, sn, ss, sn, y.data, y.bytes, y.verf, y.target,           y.list, y.ents, y.parent, y.next⟩)       _       ⟨Nat.le_of_ble_eq_true rfl, by         rw [show             deedK ⟨hm, mode, hu, user, hg, group, true, size, rh, rs, rn, wh, ws, wn⟩ ss sn                 (.rsl 24 0 size.toNat (some size.toNat) 0) 6 x =               deed6 ⟨hm, mode, hu, user, hg, group, true, size, rh, rs, rn, wh, ws, wn⟩ ss sn                 (deedK ⟨hm, mode, hu, user, hg, group, true, size, rh, rs, rn, wh, ws, wn⟩ ss sn                   (.rsl 24 0 size.toNat (some size.toNat) 0) 5 x)             from rfl,           ← hy];         unfold deed6; dsimp only; rw [q1, q2]; rfl, hget2 _ _, hs2 _ _⟩       (Nat.le_of_ble_eq_true rfl) (by kernel_rfl))
          · exact Bool.noConfusion (Eq.trans (Eq.symm z0) q1)
    · cases hs
      · conv => whnf
        (refine call_inline (fn := Try.f47) rfl Try.func47 rfl rfl ?_)
        conv => whnf
        (refine call_inline (fn := Try.f45) rfl Try.func45 rfl rfl ?_)
        conv => whnf
        cases z0 : wh == Int.ofNat 2
        · exact Bool.noConfusion (Eq.trans (Eq.symm z0) q1)
        · conv => whnf
          (refine     runK_if ⟨rfl, rfl, (by show 0 + n.toNat * 25 + 8 + 2 ≤ (nodesA L).length; rw [nodesA_len, hLl]; omega), .inl rfl⟩       ?_)
          conv => whnf
          (refine     listK_of       (splice_nodes0 (k := 8) (x' :=         ⟨y.kind, y.gen, y.mode, y.user, y.group, y.links, y.rs, y.rn, ws, wn, y.ts, y.tn, y.data, y.bytes, y.verf,           y.target, y.list, y.ents, y.parent, y.next⟩)         hLy (Nat.le_of_ble_eq_true rfl) rfl)       ?_)
          conv => whnf
          (refine ⟨by kernel_rfl, ?_⟩)
          conv => whnf
          (refine     runK_if       ⟨rfl, rfl, (by show 0 + n.toNat * 25 + 10 + 2 ≤ (nodesA (L.set n.toNat _)).length; rw [nodesA_len, hlen1]; omega),         .inl rfl⟩       ?_)
          conv => whnf
          (refine     listK_of       (splice_nodes0 (k := 10) (x' :=         ⟨y.kind, y.gen, y.mode, y.user, y.group, y.links, y.rs, y.rn, ws, wn, ss, sn, y.data, y.bytes, y.verf, y.target,           y.list, y.ents, y.parent, y.next⟩)         (hget _) (Nat.le_of_ble_eq_true rfl) rfl)       ?_)
          conv => whnf
          (exact     ih       (6,         (L.set n.toNat               ⟨y.kind, y.gen, y.mode, y.user, y.group, y.links, y.rs, y.rn, ws, wn, y.ts, y.tn, y.data, y.bytes, y.verf,                 y.target, y.list, y.ents, y.parent, y.next⟩).set           n.toNat           ⟨y.kind, y.gen, y.mode, y.user, y.group, y.links, y.rs, y.rn, ws, wn, ss, sn, y.data, y.bytes, y.verf,             y.target, y.list, y.ents, y.parent, y.next⟩,         ⟨y.kind, y.gen, y.mode, y.user, y.group, y.links, y.rs, y.rn, ws, wn, ss, sn, y.data, y.bytes, y.verf, y.target,           y.list, y.ents, y.parent, y.next⟩)       _       ⟨Nat.le_of_ble_eq_true rfl, by         rw [show             deedK ⟨hm, mode, hu, user, hg, group, false, size, rh, rs, rn, wh, ws, wn⟩ ss sn                 (.rsl 24 0 size.toNat (some size.toNat) 0) 6 x =               deed6 ⟨hm, mode, hu, user, hg, group, false, size, rh, rs, rn, wh, ws, wn⟩ ss sn                 (deedK ⟨hm, mode, hu, user, hg, group, false, size, rh, rs, rn, wh, ws, wn⟩ ss sn                   (.rsl 24 0 size.toNat (some size.toNat) 0) 5 x)             from rfl,           ← hy];         unfold deed6; dsimp only; rw [q1]; rfl, hget2 _ _, hs2 _ _⟩       (Nat.le_of_ble_eq_true rfl) (by kernel_rfl))
      · conv => whnf
        (refine call_inline (fn := Try.f47) rfl Try.func47 rfl rfl ?_)
        conv => whnf
        (refine call_inline (fn := Try.f45) rfl Try.func45 rfl rfl ?_)
        conv => whnf
        cases z0 : wh == Int.ofNat 2
        · exact Bool.noConfusion (Eq.trans (Eq.symm z0) q1)
        · conv => whnf
          (refine     runK_if ⟨rfl, rfl, (by show 0 + n.toNat * 25 + 8 + 2 ≤ (nodesA L).length; rw [nodesA_len, hLl]; omega), .inl rfl⟩       ?_)
          conv => whnf
          (refine     listK_of       (splice_nodes0 (k := 8) (x' :=         ⟨y.kind, y.gen, y.mode, y.user, y.group, y.links, y.rs, y.rn, ws, wn, y.ts, y.tn, y.data, y.bytes, y.verf,           y.target, y.list, y.ents, y.parent, y.next⟩)         hLy (Nat.le_of_ble_eq_true rfl) rfl)       ?_)
          conv => whnf
          (refine ⟨by kernel_rfl, ?_⟩)
          conv => whnf
          (refine     runK_if       ⟨rfl, rfl, (by show 0 + n.toNat * 25 + 10 + 2 ≤ (nodesA (L.set n.toNat _)).length; rw [nodesA_len, hlen1]; omega),         .inl rfl⟩       ?_)
          conv => whnf
          (refine     listK_of       (splice_nodes0 (k := 10) (x' :=         ⟨y.kind, y.gen, y.mode, y.user, y.group, y.links, y.rs, y.rn, ws, wn, ss, sn, y.data, y.bytes, y.verf, y.target,           y.list, y.ents, y.parent, y.next⟩)         (hget _) (Nat.le_of_ble_eq_true rfl) rfl)       ?_)
          conv => whnf
          (exact     ih       (6,         (L.set n.toNat               ⟨y.kind, y.gen, y.mode, y.user, y.group, y.links, y.rs, y.rn, ws, wn, y.ts, y.tn, y.data, y.bytes, y.verf,                 y.target, y.list, y.ents, y.parent, y.next⟩).set           n.toNat           ⟨y.kind, y.gen, y.mode, y.user, y.group, y.links, y.rs, y.rn, ws, wn, ss, sn, y.data, y.bytes, y.verf,             y.target, y.list, y.ents, y.parent, y.next⟩,         ⟨y.kind, y.gen, y.mode, y.user, y.group, y.links, y.rs, y.rn, ws, wn, ss, sn, y.data, y.bytes, y.verf, y.target,           y.list, y.ents, y.parent, y.next⟩)       _       ⟨Nat.le_of_ble_eq_true rfl, by         rw [show             deedK ⟨hm, mode, hu, user, hg, group, true, size, rh, rs, rn, wh, ws, wn⟩ ss sn                 (.rsl 24 0 size.toNat (some size.toNat) 0) 6 x =               deed6 ⟨hm, mode, hu, user, hg, group, true, size, rh, rs, rn, wh, ws, wn⟩ ss sn                 (deedK ⟨hm, mode, hu, user, hg, group, true, size, rh, rs, rn, wh, ws, wn⟩ ss sn                   (.rsl 24 0 size.toNat (some size.toNat) 0) 5 x)             from rfl,           ← hy];         unfold deed6; dsimp only; rw [q1]; rfl, hget2 _ _, hs2 _ _⟩       (Nat.le_of_ble_eq_true rfl) (by kernel_rfl))
  · cases hs
    · conv => whnf
      (exact hQ L y hy hLy hL)
    · conv => whnf
      (exact hQ L y hy hLy hL)
end Go.Proofs.Ytbebcbcnibfbhaa.Ab
