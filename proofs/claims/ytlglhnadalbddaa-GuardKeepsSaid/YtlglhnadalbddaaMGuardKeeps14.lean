import Derived.Test.YtlglhnadalbddaaMGuardKeeps13
/- Over the engine: the deeds that are done to a node. -/
namespace Go.Proofs.Ytlglhnadalbddaa.Ab
open Go Go.RowKit

set_option maxRecDepth 100000
/-- What the loops of some code go through, in order. -/
def loopsOf : Code → List Code
  | .loop b => [b]
  | .seq a b => loopsOf a ++ loopsOf b
  | .cond _ a b => loopsOf a ++ loopsOf b
  | .block _ b => loopsOf b
  | .scope b => loopsOf b
  | _ => []
def loopAt (fn : Func) (k : Nat) : Code := match fn.body with
  | some c => (loopsOf c).getD k .skip
  | none => .skip
section
variable (b0 b1 b4 b5 b6 b7 b8 b9 b10 b11 b12 b13 b14 b15 b16 b17 b18 b19 b20 : AB) (s : SetS) (ss sn : Int) (bo : Nat → Int) (n : Int)
def deedsT (k : Nat) : RG := RG.of 87 [(75, .int .i64 k), (74, .agg [.fn 28 [] [.ref 2 0 0, .ref 22 0 0], .fn 30 [] [.ref 2 0 0, .ref 22 0 0], .fn 31 [] [.ref 2 0 0, .ref 22 0 0], .fn 32 [] [.ref 2 0 0, .ref 22 0 0, .ref 3 0 0], .fn 34 [] [.ref 2 0 0, .ref 22 0 0, .ref 3 0 0], .fn 35 [] [.ref 2 0 0, .ref 22 0 0, .ref 3 0 0]]), (18, .ref 22 0 0), (10, .ref 4 0 0), (9, .ref 3 0 0), (5, .ref 0 0 0)]
/-- The state at a deed. -/
def deedsS (a : Nat × List NodeS × NodeS) : ST :=
  match Nat.blt 3 a.1 && s.hs with
  | false => ⟨deedsT a.1, ⟨[b0, b1, .cells [.bool s.hm, .int .u32 s.mode, .bool s.hu, .int .u32 s.user, .bool s.hg, .int .u32 s.group, .bool s.hs, .int .u64 s.size, .int .u32 s.rh, .int .u32 s.rs, .int .u32 s.rn, .int .u32 s.wh, .int .u32 s.ws, .int .u32 s.wn] ⟨false, 0, false, true⟩, .cells [.int .u32 ss, .int .u32 sn, .int .u8 (bo 0), .int .u8 (bo 1), .int .u8 (bo 2), .int .u8 (bo 3), .int .u8 (bo 4), .int .u8 (bo 5), .int .u8 (bo 6), .int .u8 (bo 7)] ⟨false, 0, false, true⟩, b4, b5, b6, b7, b8, b9, b10, b11, b12, b13, b14, b15, b16, b17, b18, b19, b20, .cells (nodesA a.2.1) ⟨false, 25, false, true⟩, .cells [.ref 21 (0 + n.toNat * 25) 0] ⟨false, 0, false, true⟩, .cells [.fn 28 [] [.ref 2 0 0, .ref 22 0 0], .fn 30 [] [.ref 2 0 0, .ref 22 0 0], .fn 31 [] [.ref 2 0 0, .ref 22 0 0], .fn 32 [] [.ref 2 0 0, .ref 22 0 0, .ref 3 0 0], .fn 34 [] [.ref 2 0 0, .ref 22 0 0, .ref 3 0 0], .fn 35 [] [.ref 2 0 0, .ref 22 0 0, .ref 3 0 0]] ⟨false, 0, false, true⟩], [(0, 22), (20, 22), (19, 22)]⟩⟩
  | true => ⟨deedsT a.1, ⟨[b0, b1, .cells [.bool s.hm, .int .u32 s.mode, .bool s.hu, .int .u32 s.user, .bool s.hg, .int .u32 s.group, .bool s.hs, .int .u64 s.size, .int .u32 s.rh, .int .u32 s.rs, .int .u32 s.rn, .int .u32 s.wh, .int .u32 s.ws, .int .u32 s.wn] ⟨false, 0, false, true⟩, .cells [.int .u32 ss, .int .u32 sn, .int .u8 (bo 0), .int .u8 (bo 1), .int .u8 (bo 2), .int .u8 (bo 3), .int .u8 (bo 4), .int .u8 (bo 5), .int .u8 (bo 6), .int .u8 (bo 7)] ⟨false, 0, false, true⟩, b4, b5, b6, b7, b8, b9, b10, b11, b12, b13, b14, b15, b16, b17, b18, b19, b20, .cells (nodesA a.2.1) ⟨false, 25, false, true⟩, .cells [.ref 21 (0 + n.toNat * 25) 0] ⟨false, 0, false, true⟩, .cells [.fn 28 [] [.ref 2 0 0, .ref 22 0 0], .fn 30 [] [.ref 2 0 0, .ref 22 0 0], .fn 31 [] [.ref 2 0 0, .ref 22 0 0], .fn 32 [] [.ref 2 0 0, .ref 22 0 0, .ref 3 0 0], .fn 34 [] [.ref 2 0 0, .ref 22 0 0, .ref 3 0 0], .fn 35 [] [.ref 2 0 0, .ref 22 0 0, .ref 3 0 0]] ⟨false, 0, false, true⟩, .cells (numsA .u8 a.2.2.bytes) ⟨true, 1, false, true⟩, .void, .void, .void, .void, .void, .void, .void, .void, .void], [(21, 25), (0, 22), (20, 22), (19, 22)]⟩⟩
end
theorem set_same {α : Type} {l : List α} {i : Nat} {x : α} (h : l[i]? = some x) : l.set i x = l := by
  obtain ⟨h1, rfl⟩ := List.getElem?_eq_some_iff.1 h
  exact List.set_getElem_self h1
theorem splice_sized (l : List Int) (z : Nat) : splice (List.replicate z (.int .u8 0)) 0 ((numsA .u8 l).take (min l.length z)) = numsA .u8 (sized l z) := by
  rcases Nat.le_total l.length z with h | h
  · rw [Nat.min_eq_left h, List.take_of_length_le (by simp [numsA])]
    unfold sized
    rw [List.take_of_length_le h]
    obtain ⟨k, rfl⟩ : ∃ k, z = l.length + k := ⟨z - l.length, by omega⟩
    rw [Nat.add_sub_cancel_left, List.replicate_append_replicate.symm]
    have h1 := splice_left (List.replicate l.length (AV.int .u8 0)) (List.replicate k (AV.int .u8 0)) 0 (numsA .u8 l) (by simp [numsA])
    rw [h1, splice_all _ _ (by simp [numsA])]
    simp [numsA]
  · rw [Nat.min_eq_right h]
    rw [splice_all _ _ (by simp [numsA]; omega)]
    unfold sized
    rw [show z - l.length = 0 by omega]
    simp [numsA]
theorem splice_sized0 (z : Nat) : splice (List.replicate z (.int .u8 0)) 0 [] = numsA .u8 (sized [] z) := by
  rw [splice_nil]
  simp [sized, numsA]
theorem numsA_top (k : IntKind) : ∀ l : List Int, topL (numsA k l) = 0
  | [] => rfl
  | a :: l => by
    show max 0 (topL (numsA k l)) = 0
    rw [numsA_top k l]
    rfl
theorem numsA_take (k : IntKind) (l : List Int) (n : Nat) : (numsA k l).take n = numsA k (l.take n) := by simp [numsA]
/-- So many deeds. -/
def deedK (s : SetS) (ss sn : Int) (d : AV) (k : Nat) (x : NodeS) : NodeS := match k with
  | 0 => x
  | 1 => deed1 s ss sn x
  | 2 => deed2 s ss sn (deed1 s ss sn x)
  | 3 => deed3 s ss sn (deed2 s ss sn (deed1 s ss sn x))
  | 4 => deed4 s ss sn d (deed3 s ss sn (deed2 s ss sn (deed1 s ss sn x)))
  | 5 => deed5 s ss sn (deed4 s ss sn d (deed3 s ss sn (deed2 s ss sn (deed1 s ss sn x))))
  | _ => deeds s ss sn d x

set_option maxHeartbeats 8000000 in
theorem deeds_K (b0 b1 b4 b5 b6 b7 b8 b9 b10 b11 b12 b13 b14 b15 b16 b17 b18 b19 b20 : AB) (s : SetS) (ss sn : Int) (bo : Nat → Int) (n : Int) (m : Nat) (jmp : JumpF) (Q : AX → ST → Prop) (s0 : ST) (l : List NodeS) (x : NodeS) (hl : l.length ≤ 300) (hn0 : 0 ≤ n) (hn1 : n < l.length) (hx : l[n.toNat]? = some x) (hxd : rowOk .u8 x.data x.bytes) (hsz : 0 ≤ s.size) (hsm : s.hs = true → s.size ≤ 65536)
    (h0 : s0.norm (TE.keep 7 (firstR (loopAt Try.f7 1))) 24 = deedsS b0 b1 b4 b5 b6 b7 b8 b9 b10 b11 b12 b13 b14 b15 b16 b17 b18 b19 b20 s ss sn bo n (0, l, x))
    (hQ : ∀ L y, y = deeds s ss sn (.rsl 24 0 s.size.toNat (some s.size.toNat) 0) x → L[n.toNat]? = some y → L = l.set n.toNat y → Q (.exit 2) ⟨(deedsS b0 b1 b4 b5 b6 b7 b8 b9 b10 b11 b12 b13 b14 b15 b16 b17 b18 b19 b20 s ss sn bo n (6, L, y)).tmps.put 76 (.bool false), (deedsS b0 b1 b4 b5 b6 b7 b8 b9 b10 b11 b12 b13 b14 b15 b16 b17 b18 b19 b20 s ss sn bo n (6, L, y)).h⟩) :
    ∃ m', m' ≤ TE.fuel ∧ roundsK (codeK TE (evAll TE (m + 3)).1 7 jmp false (loopAt Try.f7 1)) (normK (TE.keep 7 (firstR (loopAt Try.f7 1))) 24) Q m' s0 := by
  refine ⟨7, Nat.le_of_ble_eq_true rfl, ?_⟩
  refine rounds_ind (deedsS b0 b1 b4 b5 b6 b7 b8 b9 b10 b11 b12 b13 b14 b15 b16 b17 b18 b19 b20 s ss sn bo n) (fun a => a.1 ≤ 6 ∧ a.2.2 = deedK s ss sn (.rsl 24 0 s.size.toNat (some s.size.toNat) 0) a.1 x ∧ a.2.1[n.toNat]? = some a.2.2 ∧ a.2.1 = l.set n.toNat a.2.2) (fun a => 6 - a.1) ?_ _ (0, l, x) _ ⟨Nat.zero_le _, rfl, hx, (by show l = l.set n.toNat x; exact (set_same hx).symm)⟩ (Nat.lt_succ_self 6) h0
  intro a m' hI ih
  obtain ⟨k, L, y⟩ := a
  dsimp only at hI ih
  obtain ⟨hk, hy, hLy, hL⟩ := hI
  have hLl : L.length = l.length := by rw [hL, List.length_set]
  have hget : ∀ z, (L.set n.toNat z)[n.toNat]? = some z := fun z => by rw [List.getElem?_set_self (by omega)]
  have hget2 : ∀ u z, ((L.set n.toNat u).set n.toNat z)[n.toNat]? = some z := fun u z => by rw [List.getElem?_set_self (by rw [List.length_set]; omega)]
  have hget3 : ∀ u v z, (((L.set n.toNat u).set n.toNat v).set n.toNat z)[n.toNat]? = some z := fun u v z => by rw [List.getElem?_set_self (by rw [List.length_set, List.length_set]; omega)]
  have hs1 : ∀ z, L.set n.toNat z = l.set n.toNat z := fun z => by rw [hL, List.set_set]
  have hs2 : ∀ u z, (L.set n.toNat u).set n.toNat z = l.set n.toNat z := fun u z => by rw [List.set_set, hs1]
  have hs3 : ∀ u v z, ((L.set n.toNat u).set n.toNat v).set n.toNat z = l.set n.toNat z := fun u v z => by rw [List.set_set, List.set_set, hs1]
  have hlen1 : ∀ z, (L.set n.toNat z).length = l.length := fun z => by rw [List.length_set, hLl]
  have hlen2 : ∀ u z, ((L.set n.toNat u).set n.toNat z).length = l.length := fun u z => by rw [List.length_set, hlen1]
  obtain ⟨hm, mode, hu, user, hg, group, hs, size, rh, rs, rn, wh, ws, wn⟩ := s
  dsimp only at hsz hsm
  obtain rfl | rfl | rfl | rfl | rfl | rfl | rfl : k = 0 ∨ k = 1 ∨ k = 2 ∨ k = 3 ∨ k = 4 ∨ k = 5 ∨ k = 6 := by omega
  · cases hm
    · cases hs
      · conv => whnf
        (refine call_inline (fn := Try.f28) rfl Try.func28 rfl rfl ?_)
        conv => whnf
        (refine call_inline (fn := Try.f29) rfl Try.func29 rfl rfl ?_)
        conv => whnf
        (refine ⟨by kernel_rfl, ?_⟩)
        conv => whnf
        (exact ih (1, L, y) _ ⟨Nat.le_of_ble_eq_true rfl, hy, hLy, hL⟩ (Nat.le_of_ble_eq_true rfl) (by kernel_rfl))
      · conv => whnf
        (refine call_inline (fn := Try.f28) rfl Try.func28 rfl rfl ?_)
        conv => whnf
        (refine call_inline (fn := Try.f29) rfl Try.func29 rfl rfl ?_)
        conv => whnf
        (refine ⟨by kernel_rfl, ?_⟩)
        conv => whnf
        (exact ih (1, L, y) _ ⟨Nat.le_of_ble_eq_true rfl, hy, hLy, hL⟩ (Nat.le_of_ble_eq_true rfl) (by kernel_rfl))
    · cases hs
      · conv => whnf
        (refine call_inline (fn := Try.f28) rfl Try.func28 rfl rfl ?_)
        conv => whnf
        (refine call_inline (fn := Try.f29) rfl Try.func29 rfl rfl ?_)
        conv => whnf
        (refine     runK_if ⟨rfl, rfl, (by show 0 + n.toNat * 25 + 2 + 1 ≤ (nodesA L).length; rw [nodesA_len, hLl]; omega), .inl rfl⟩       ?_)
        conv => whnf
        (refine     listK_of       (splice_nodes0 (k := 2) (x' :=         ⟨y.kind, y.gen, mode, y.user, y.group, y.links, y.rs, y.rn, y.ws, y.wn, y.ts, y.tn, y.data, y.bytes, y.verf,           y.target, y.list, y.ents, y.parent, y.next⟩)         hLy (Nat.le_of_ble_eq_true rfl) rfl)       ?_)
        conv => whnf
        (refine ⟨by kernel_rfl, ?_⟩)
        conv => whnf
        (refine     runK_if       ⟨rfl, rfl, (by show 0 + n.toNat * 25 + 10 + 2 ≤ (nodesA (L.set n.toNat _)).length; rw [nodesA_len, hlen1]; omega),         .inl rfl⟩       ?_)
        conv => whnf
        (refine     listK_of       (splice_nodes0 (k := 10) (x' :=         ⟨y.kind, y.gen, mode, y.user, y.group, y.links, y.rs, y.rn, y.ws, y.wn, ss, sn, y.data, y.bytes, y.verf,           y.target, y.list, y.ents, y.parent, y.next⟩)         (hget _) (Nat.le_of_ble_eq_true rfl) rfl)       ?_)
        conv => whnf
        (exact     ih       (1,         (L.set n.toNat               ⟨y.kind, y.gen, mode, y.user, y.group, y.links, y.rs, y.rn, y.ws, y.wn, y.ts, y.tn, y.data, y.bytes,                 y.verf, y.target, y.list, y.ents, y.parent, y.next⟩).set           n.toNat           ⟨y.kind, y.gen, mode, y.user, y.group, y.links, y.rs, y.rn, y.ws, y.wn, ss, sn, y.data, y.bytes, y.verf,             y.target, y.list, y.ents, y.parent, y.next⟩,         ⟨y.kind, y.gen, mode, y.user, y.group, y.links, y.rs, y.rn, y.ws, y.wn, ss, sn, y.data, y.bytes, y.verf,           y.target, y.list, y.ents, y.parent, y.next⟩)       _ ⟨Nat.le_of_ble_eq_true rfl, by rw [hy]; rfl, hget2 _ _, hs2 _ _⟩ (Nat.le_of_ble_eq_true rfl) (by kernel_rfl))
      · conv => whnf
        (refine call_inline (fn := Try.f28) rfl Try.func28 rfl rfl ?_)
        conv => whnf
        (refine call_inline (fn := Try.f29) rfl Try.func29 rfl rfl ?_)
        conv => whnf
        (refine     runK_if ⟨rfl, rfl, (by show 0 + n.toNat * 25 + 2 + 1 ≤ (nodesA L).length; rw [nodesA_len, hLl]; omega), .inl rfl⟩       ?_)
        conv => whnf
        (refine     listK_of       (splice_nodes0 (k := 2) (x' :=         ⟨y.kind, y.gen, mode, y.user, y.group, y.links, y.rs, y.rn, y.ws, y.wn, y.ts, y.tn, y.data, y.bytes, y.verf,           y.target, y.list, y.ents, y.parent, y.next⟩)         hLy (Nat.le_of_ble_eq_true rfl) rfl)       ?_)
        conv => whnf
        (refine ⟨by kernel_rfl, ?_⟩)
        conv => whnf
        (refine     runK_if       ⟨rfl, rfl, (by show 0 + n.toNat * 25 + 10 + 2 ≤ (nodesA (L.set n.toNat _)).length; rw [nodesA_len, hlen1]; omega),         .inl rfl⟩       ?_)
        conv => whnf
        (refine     listK_of       (splice_nodes0 (k := 10) (x' :=         ⟨y.kind, y.gen, mode, y.user, y.group, y.links, y.rs, y.rn, y.ws, y.wn, ss, sn, y.data, y.bytes, y.verf,           y.target, y.list, y.ents, y.parent, y.next⟩)         (hget _) (Nat.le_of_ble_eq_true rfl) rfl)       ?_)
        conv => whnf
        (exact     ih       (1,         (L.set n.toNat               ⟨y.kind, y.gen, mode, y.user, y.group, y.links, y.rs, y.rn, y.ws, y.wn, y.ts, y.tn, y.data, y.bytes,                 y.verf, y.target, y.list, y.ents, y.parent, y.next⟩).set           n.toNat           ⟨y.kind, y.gen, mode, y.user, y.group, y.links, y.rs, y.rn, y.ws, y.wn, ss, sn, y.data, y.bytes, y.verf,             y.target, y.list, y.ents, y.parent, y.next⟩,         ⟨y.kind, y.gen, mode, y.user, y.group, y.links, y.rs, y.rn, y.ws, y.wn, ss, sn, y.data, y.bytes, y.verf,           y.target, y.list, y.ents, y.parent, y.next⟩)       _ ⟨Nat.le_of_ble_eq_true rfl, by rw [hy]; rfl, hget2 _ _, hs2 _ _⟩ (Nat.le_of_ble_eq_true rfl) (by kernel_rfl))
  · cases hu
    · cases hs
      · conv => whnf
        (refine call_inline (fn := Try.f30) rfl Try.func30 rfl rfl ?_)
        conv => whnf
        (refine call_inline (fn := Try.f29) rfl Try.func29 rfl rfl ?_)
        conv => whnf
        (refine ⟨by kernel_rfl, ?_⟩)
        conv => whnf
        (exact ih (2, L, y) _ ⟨Nat.le_of_ble_eq_true rfl, hy, hLy, hL⟩ (Nat.le_of_ble_eq_true rfl) (by kernel_rfl))
      · conv => whnf
        (refine call_inline (fn := Try.f30) rfl Try.func30 rfl rfl ?_)
        conv => whnf
        (refine call_inline (fn := Try.f29) rfl Try.func29 rfl rfl ?_)
        conv => whnf
        (refine ⟨by kernel_rfl, ?_⟩)
        conv => whnf
        (exact ih (2, L, y) _ ⟨Nat.le_of_ble_eq_true rfl, hy, hLy, hL⟩ (Nat.le_of_ble_eq_true rfl) (by kernel_rfl))
    · cases hs
      · conv => whnf
        (refine call_inline (fn := Try.f30) rfl Try.func30 rfl rfl ?_)
        conv => whnf
        (refine call_inline (fn := Try.f29) rfl Try.func29 rfl rfl ?_)
        conv => whnf
        (refine     runK_if ⟨rfl, rfl, (by show 0 + n.toNat * 25 + 3 + 1 ≤ (nodesA L).length; rw [nodesA_len, hLl]; omega), .inl rfl⟩       ?_)
        conv => whnf
        (refine     listK_of       (splice_nodes0 (k := 3) (x' :=         ⟨y.kind, y.gen, y.mode, user, y.group, y.links, y.rs, y.rn, y.ws, y.wn, y.ts, y.tn, y.data, y.bytes, y.verf,           y.target, y.list, y.ents, y.parent, y.next⟩)         hLy (Nat.le_of_ble_eq_true rfl) rfl)       ?_)
        conv => whnf
        (refine ⟨by kernel_rfl, ?_⟩)
        conv => whnf
        (refine     runK_if       ⟨rfl, rfl, (by show 0 + n.toNat * 25 + 10 + 2 ≤ (nodesA (L.set n.toNat _)).length; rw [nodesA_len, hlen1]; omega),         .inl rfl⟩       ?_)
        conv => whnf
        (refine     listK_of       (splice_nodes0 (k := 10) (x' :=         ⟨y.kind, y.gen, y.mode, user, y.group, y.links, y.rs, y.rn, y.ws, y.wn, ss, sn, y.data, y.bytes, y.verf,           y.target, y.list, y.ents, y.parent, y.next⟩)         (hget _) (Nat.le_of_ble_eq_true rfl) rfl)       ?_)
        conv => whnf
        (exact     ih       (2,         (L.set n.toNat               ⟨y.kind, y.gen, y.mode, user, y.group, y.links, y.rs, y.rn, y.ws, y.wn, y.ts, y.tn, y.data, y.bytes,                 y.verf, y.target, y.list, y.ents, y.parent, y.next⟩).set           n.toNat           ⟨y.kind, y.gen, y.mode, user, y.group, y.links, y.rs, y.rn, y.ws, y.wn, ss, sn, y.data, y.bytes, y.verf,             y.target, y.list, y.ents, y.parent, y.next⟩,         ⟨y.kind, y.gen, y.mode, user, y.group, y.links, y.rs, y.rn, y.ws, y.wn, ss, sn, y.data, y.bytes, y.verf,           y.target, y.list, y.ents, y.parent, y.next⟩)       _ ⟨Nat.le_of_ble_eq_true rfl, by rw [hy]; rfl, hget2 _ _, hs2 _ _⟩ (Nat.le_of_ble_eq_true rfl) (by kernel_rfl))
      · conv => whnf
        (refine call_inline (fn := Try.f30) rfl Try.func30 rfl rfl ?_)
        conv => whnf
        (refine call_inline (fn := Try.f29) rfl Try.func29 rfl rfl ?_)
        conv => whnf
        (refine     runK_if ⟨rfl, rfl, (by show 0 + n.toNat * 25 + 3 + 1 ≤ (nodesA L).length; rw [nodesA_len, hLl]; omega), .inl rfl⟩       ?_)
        conv => whnf
        (refine     listK_of       (splice_nodes0 (k := 3) (x' :=         ⟨y.kind, y.gen, y.mode, user, y.group, y.links, y.rs, y.rn, y.ws, y.wn, y.ts, y.tn, y.data, y.bytes, y.verf,           y.target, y.list, y.ents, y.parent, y.next⟩)         hLy (Nat.le_of_ble_eq_true rfl) rfl)       ?_)
        conv => whnf
        (refine ⟨by kernel_rfl, ?_⟩)
        conv => whnf
        (refine     runK_if       ⟨rfl, rfl, (by show 0 + n.toNat * 25 + 10 + 2 ≤ (nodesA (L.set n.toNat _)).length; rw [nodesA_len, hlen1]; omega),         .inl rfl⟩       ?_)
        conv => whnf
        (refine     listK_of       (splice_nodes0 (k := 10) (x' :=         ⟨y.kind, y.gen, y.mode, user, y.group, y.links, y.rs, y.rn, y.ws, y.wn, ss, sn, y.data, y.bytes, y.verf,           y.target, y.list, y.ents, y.parent, y.next⟩)         (hget _) (Nat.le_of_ble_eq_true rfl) rfl)       ?_)
        conv => whnf
        (exact     ih       (2,         (L.set n.toNat               ⟨y.kind, y.gen, y.mode, user, y.group, y.links, y.rs, y.rn, y.ws, y.wn, y.ts, y.tn, y.data, y.bytes,                 y.verf, y.target, y.list, y.ents, y.parent, y.next⟩).set           n.toNat           ⟨y.kind, y.gen, y.mode, user, y.group, y.links, y.rs, y.rn, y.ws, y.wn, ss, sn, y.data, y.bytes, y.verf,             y.target, y.list, y.ents, y.parent, y.next⟩,         ⟨y.kind, y.gen, y.mode, user, y.group, y.links, y.rs, y.rn, y.ws, y.wn, ss, sn, y.data, y.bytes, y.verf,           y.target, y.list, y.ents, y.parent, y.next⟩)       _ ⟨Nat.le_of_ble_eq_true rfl, by rw [hy]; rfl, hget2 _ _, hs2 _ _⟩ (Nat.le_of_ble_eq_true rfl) (by kernel_rfl))
  · cases hg
    · cases hs
      · conv => whnf
        (refine call_inline (fn := Try.f31) rfl Try.func31 rfl rfl ?_)
        conv => whnf
        (refine call_inline (fn := Try.f29) rfl Try.func29 rfl rfl ?_)
        conv => whnf
        (refine ⟨by kernel_rfl, ?_⟩)
        conv => whnf
        (exact ih (3, L, y) _ ⟨Nat.le_of_ble_eq_true rfl, hy, hLy, hL⟩ (Nat.le_of_ble_eq_true rfl) (by kernel_rfl))
      · conv => whnf
        (refine call_inline (fn := Try.f31) rfl Try.func31 rfl rfl ?_)
        conv => whnf
        (refine call_inline (fn := Try.f29) rfl Try.func29 rfl rfl ?_)
        conv => whnf
        (refine ⟨by kernel_rfl, ?_⟩)
        conv => whnf
        (exact ih (3, L, y) _ ⟨Nat.le_of_ble_eq_true rfl, hy, hLy, hL⟩ (Nat.le_of_ble_eq_true rfl) (by kernel_rfl))
    · cases hs
      · conv => whnf
        (refine call_inline (fn := Try.f31) rfl Try.func31 rfl rfl ?_)
        conv => whnf
        (refine call_inline (fn := Try.f29) rfl Try.func29 rfl rfl ?_)
        conv => whnf
        (refine     runK_if ⟨rfl, rfl, (by show 0 + n.toNat * 25 + 4 + 1 ≤ (nodesA L).length; rw [nodesA_len, hLl]; omega), .inl rfl⟩       ?_)
        conv => whnf
        (refine     listK_of       (splice_nodes0 (k := 4) (x' :=         ⟨y.kind, y.gen, y.mode, y.user, group, y.links, y.rs, y.rn, y.ws, y.wn, y.ts, y.tn, y.data, y.bytes, y.verf,           y.target, y.list, y.ents, y.parent, y.next⟩)         hLy (Nat.le_of_ble_eq_true rfl) rfl)       ?_)
        conv => whnf
        (refine ⟨by kernel_rfl, ?_⟩)
        conv => whnf
        (refine     runK_if       ⟨rfl, rfl, (by show 0 + n.toNat * 25 + 10 + 2 ≤ (nodesA (L.set n.toNat _)).length; rw [nodesA_len, hlen1]; omega),         .inl rfl⟩       ?_)
        conv => whnf
        (refine     listK_of       (splice_nodes0 (k := 10) (x' :=         ⟨y.kind, y.gen, y.mode, y.user, group, y.links, y.rs, y.rn, y.ws, y.wn, ss, sn, y.data, y.bytes, y.verf,           y.target, y.list, y.ents, y.parent, y.next⟩)         (hget _) (Nat.le_of_ble_eq_true rfl) rfl)       ?_)
        conv => whnf
        (exact     ih       (3,         (L.set n.toNat               ⟨y.kind, y.gen, y.mode, y.user, group, y.links, y.rs, y.rn, y.ws, y.wn, y.ts, y.tn, y.data, y.bytes,                 y.verf, y.target, y.list, y.ents, y.parent, y.next⟩).set           n.toNat           ⟨y.kind, y.gen, y.mode, y.user, group, y.links, y.rs, y.rn, y.ws, y.wn, ss, sn, y.data, y.bytes, y.verf,             y.target, y.list, y.ents, y.parent, y.next⟩,         ⟨y.kind, y.gen, y.mode, y.user, group, y.links, y.rs, y.rn, y.ws, y.wn, ss, sn, y.data, y.bytes, y.verf,           y.target, y.list, y.ents, y.parent, y.next⟩)       _ ⟨Nat.le_of_ble_eq_true rfl, by rw [hy]; rfl, hget2 _ _, hs2 _ _⟩ (Nat.le_of_ble_eq_true rfl) (by kernel_rfl))
      · conv => whnf
        (refine call_inline (fn := Try.f31) rfl Try.func31 rfl rfl ?_)
        conv => whnf
        (refine call_inline (fn := Try.f29) rfl Try.func29 rfl rfl ?_)
        conv => whnf
        (refine     runK_if ⟨rfl, rfl, (by show 0 + n.toNat * 25 + 4 + 1 ≤ (nodesA L).length; rw [nodesA_len, hLl]; omega), .inl rfl⟩       ?_)
        conv => whnf
        (refine     listK_of       (splice_nodes0 (k := 4) (x' :=         ⟨y.kind, y.gen, y.mode, y.user, group, y.links, y.rs, y.rn, y.ws, y.wn, y.ts, y.tn, y.data, y.bytes, y.verf,           y.target, y.list, y.ents, y.parent, y.next⟩)         hLy (Nat.le_of_ble_eq_true rfl) rfl)       ?_)
        conv => whnf
        (refine ⟨by kernel_rfl, ?_⟩)
        conv => whnf
        (refine     runK_if       ⟨rfl, rfl, (by show 0 + n.toNat * 25 + 10 + 2 ≤ (nodesA (L.set n.toNat _)).length; rw [nodesA_len, hlen1]; omega),         .inl rfl⟩       ?_)
        conv => whnf
        (refine     listK_of       (splice_nodes0 (k := 10) (x' :=         ⟨y.kind, y.gen, y.mode, y.user, group, y.links, y.rs, y.rn, y.ws, y.wn, ss, sn, y.data, y.bytes, y.verf,           y.target, y.list, y.ents, y.parent, y.next⟩)         (hget _) (Nat.le_of_ble_eq_true rfl) rfl)       ?_)
        conv => whnf
        (exact     ih       (3,         (L.set n.toNat               ⟨y.kind, y.gen, y.mode, y.user, group, y.links, y.rs, y.rn, y.ws, y.wn, y.ts, y.tn, y.data, y.bytes,                 y.verf, y.target, y.list, y.ents, y.parent, y.next⟩).set           n.toNat           ⟨y.kind, y.gen, y.mode, y.user, group, y.links, y.rs, y.rn, y.ws, y.wn, ss, sn, y.data, y.bytes, y.verf,             y.target, y.list, y.ents, y.parent, y.next⟩,         ⟨y.kind, y.gen, y.mode, y.user, group, y.links, y.rs, y.rn, y.ws, y.wn, ss, sn, y.data, y.bytes, y.verf,           y.target, y.list, y.ents, y.parent, y.next⟩)       _ ⟨Nat.le_of_ble_eq_true rfl, by rw [hy]; rfl, hget2 _ _, hs2 _ _⟩ (Nat.le_of_ble_eq_true rfl) (by kernel_rfl))
  · cases hs
    · conv => whnf
      (refine call_inline (fn := Try.f32) rfl Try.func32 rfl rfl ?_)
      conv => whnf
      (refine call_inline (fn := Try.f33) rfl Try.func33 rfl rfl ?_)
      conv => whnf
      (refine ⟨by kernel_rfl, ?_⟩)
      conv => whnf
      (exact ih (4, L, y) _ ⟨Nat.le_of_ble_eq_true rfl, hy, hLy, hL⟩ (Nat.le_of_ble_eq_true rfl) (by kernel_rfl))
    · have hsm := hsm rfl
      obtain ⟨z, rfl⟩ : ∃ z : Nat, size = z := ⟨size.toNat, by omega⟩
      have hw : IntKind.wrap .i64 ((z : Nat) : Int) = z := wrap64 (by omega) (by omega)
      have hyd : y.data = x.data ∧ y.bytes = x.bytes := by
        rw [hy]
        simp only [deedK, deed1, deed2, deed3, apply_ite NodeS.data, apply_ite NodeS.bytes, ite_self, and_self]
      rw [← hyd.1, ← hyd.2] at hxd
      clear hyd
      obtain ⟨kd, ge, mo, us, ng, li, xrs, xrn, xws, xwn, ts, tn, da, by_, vf, ta, ls, es, pa, nx⟩ := y
      dsimp only at hxd
      rcases hxd with ⟨rfl, rfl⟩ | ⟨dt, rfl⟩
      · conv => whnf
        (refine call_inline (fn := Try.f32) rfl Try.func32 rfl rfl ?_)
        conv => whnf
        (refine     runK_ret       (ev_makeN (sz := 1) (by_ := 1) (n := z) (cs := List.replicate z (.int .u8 0)) rfl rfl rfl rfl         (congrArg (AV.int .i64) hw) (congrArg (AV.int .i64) hw) (by omega) (by omega) rfl (by decide) rfl rfl)       ?_)
        conv => whnf
        (refine runK_if rfl (runK_cell rfl (nodes_cell0 hLy 12 (by decide) rfl) (runK_ret rfl ?_)))
        conv => whnf
        (refine listK_of (splice_sized0 z) ?_)
        conv => whnf
        (refine     runK_if ⟨rfl, rfl, (by show 0 + n.toNat * 25 + 12 + 1 ≤ (nodesA L).length; rw [nodesA_len, hLl]; omega), .inl rfl⟩       ?_)
        conv => whnf
        (refine     listK_of       (splice_nodes0 (k := 12) (x' :=         ⟨kd, ge, mo, us, ng, li, xrs, xrn, xws, xwn, ts, tn, (.rsl 24 0 z (some z) 0), (sized [] z), vf, ta, ls, es, pa,           nx⟩)         hLy (Nat.le_of_ble_eq_true rfl) rfl)       ?_)
        conv => whnf
        (refine call_inline (fn := Try.f33) rfl Try.func33 rfl rfl ?_)
        conv => whnf
        (refine     runK_if       ⟨rfl, rfl, (by show 0 + n.toNat * 25 + 8 + 2 ≤ (nodesA (L.set n.toNat _)).length; rw [nodesA_len, hlen1]; omega),         .inl rfl⟩       ?_)
        conv => whnf
        (refine     listK_of       (splice_nodes0 (k := 8) (x' :=         ⟨kd, ge, mo, us, ng, li, xrs, xrn, ss, sn, ts, tn, (.rsl 24 0 z (some z) 0), (sized [] z), vf, ta, ls, es, pa,           nx⟩)         (hget _) (Nat.le_of_ble_eq_true rfl) rfl)       ?_)
        conv => whnf
        (refine ⟨by kernel_rfl, ?_⟩)
        conv => whnf
        (refine     runK_if       ⟨rfl, rfl,         (by show 0 + n.toNat * 25 + 10 + 2 ≤ (nodesA ((L.set n.toNat _).set n.toNat _)).length; rw [nodesA_len, hlen2];           omega),         .inl rfl⟩       ?_)
        conv => whnf
        (refine     listK_of       (splice_nodes0 (k := 10) (x' :=         ⟨kd, ge, mo, us, ng, li, xrs, xrn, ss, sn, ss, sn, (.rsl 24 0 z (some z) 0), (sized [] z), vf, ta, ls, es, pa,           nx⟩)         (hget2 _ _) (Nat.le_of_ble_eq_true rfl) rfl)       ?_)
        conv => whnf
        (exact     ih       (4,         ((L.set n.toNat                   ⟨kd, ge, mo, us, ng, li, xrs, xrn, xws, xwn, ts, tn, (.rsl 24 0 z (some z) 0), (sized [] z), vf, ta,                     ls, es, pa, nx⟩).set               n.toNat               ⟨kd, ge, mo, us, ng, li, xrs, xrn, ss, sn, ts, tn, (.rsl 24 0 z (some z) 0), (sized [] z), vf, ta, ls, es,                 pa, nx⟩).set           n.toNat           ⟨kd, ge, mo, us, ng, li, xrs, xrn, ss, sn, ss, sn, (.rsl 24 0 z (some z) 0), (sized [] z), vf, ta, ls, es, pa,             nx⟩,         ⟨kd, ge, mo, us, ng, li, xrs, xrn, ss, sn, ss, sn, (.rsl 24 0 z (some z) 0), (sized [] z), vf, ta, ls, es, pa,           nx⟩)       _       ⟨Nat.le_of_ble_eq_true rfl, by         rw [show             deedK ⟨hm, mode, hu, user, hg, group, true, z, rh, rs, rn, wh, ws, wn⟩ ss sn                 (.rsl 24 0 (Int.toNat z) (some (Int.toNat z)) 0) 4 x =               deed4 ⟨hm, mode, hu, user, hg, group, true, z, rh, rs, rn, wh, ws, wn⟩ ss sn                 (.rsl 24 0 (Int.toNat z) (some (Int.toNat z)) 0)                 (deedK ⟨hm, mode, hu, user, hg, group, true, z, rh, rs, rn, wh, ws, wn⟩ ss sn                   (.rsl 24 0 (Int.toNat z) (some (Int.toNat z)) 0) 3 x)             from rfl,           ← hy];         rfl, hget3 _ _ _, hs3 _ _ _⟩       (Nat.le_of_ble_eq_true rfl) (by kernel_rfl))
      · conv => whnf
        (refine call_inline (fn := Try.f32) rfl Try.func32 rfl rfl ?_)
        conv => whnf
        (refine     runK_ret       (ev_makeN (sz := 1) (by_ := 1) (n := z) (cs := List.replicate z (.int .u8 0)) rfl rfl rfl rfl         (congrArg (AV.int .i64) hw) (congrArg (AV.int .i64) hw) (by omega) (by omega) rfl (by decide) rfl rfl)       ?_)
        conv => whnf
        (refine runK_if rfl (runK_cell rfl (nodes_cell0 hLy 12 (by decide) rfl) (runK_ret rfl ?_)))
        conv => whnf
        (refine runK_copy_letter rfl rfl rfl rfl rfl rfl rfl (by simp [numsA]) (List.length_replicate ..) ?_; intro cs ck hcs)
        conv => whnf
        (refine     listK_of       (show splice (List.replicate z (.int .u8 0)) 0 cs = numsA .u8 (sized by_ z) by rw [hcs]; exact splice_sized by_ z)       ?_)
        conv => whnf
        (refine listK_of (if_pos (show topL cs ≤ _ by rw [hcs, numsA_take, numsA_top]; exact Nat.zero_le _)) ?_)
        conv => whnf
        (refine     runK_if ⟨rfl, rfl, (by show 0 + n.toNat * 25 + 12 + 1 ≤ (nodesA L).length; rw [nodesA_len, hLl]; omega), .inl rfl⟩       ?_)
        conv => whnf
        (refine     listK_of       (splice_nodes0 (k := 12) (x' :=         ⟨kd, ge, mo, us, ng, li, xrs, xrn, xws, xwn, ts, tn, (.rsl 24 0 z (some z) 0), (sized by_ z), vf, ta, ls, es,           pa, nx⟩)         hLy (Nat.le_of_ble_eq_true rfl) rfl)       ?_)
        conv => whnf
        (refine call_inline (fn := Try.f33) rfl Try.func33 rfl rfl ?_)
        conv => whnf
        (refine     runK_if       ⟨rfl, rfl, (by show 0 + n.toNat * 25 + 8 + 2 ≤ (nodesA (L.set n.toNat _)).length; rw [nodesA_len, hlen1]; omega),         .inl rfl⟩       ?_)
        conv => whnf
        (refine     listK_of       (splice_nodes0 (k := 8) (x' :=         ⟨kd, ge, mo, us, ng, li, xrs, xrn, ss, sn, ts, tn, (.rsl 24 0 z (some z) 0), (sized by_ z), vf, ta, ls, es, pa,           nx⟩)         (hget _) (Nat.le_of_ble_eq_true rfl) rfl)       ?_)
        conv => whnf
        (refine ⟨by kernel_rfl, ?_⟩)
        conv => whnf
        (refine     runK_if       ⟨rfl, rfl,         (by show 0 + n.toNat * 25 + 10 + 2 ≤ (nodesA ((L.set n.toNat _).set n.toNat _)).length; rw [nodesA_len, hlen2];           omega),         .inl rfl⟩       ?_)
        conv => whnf
        (refine     listK_of       (splice_nodes0 (k := 10) (x' :=         ⟨kd, ge, mo, us, ng, li, xrs, xrn, ss, sn, ss, sn, (.rsl 24 0 z (some z) 0), (sized by_ z), vf, ta, ls, es, pa,           nx⟩)         (hget2 _ _) (Nat.le_of_ble_eq_true rfl) rfl)       ?_)
        conv => whnf
        (exact     ih       (4,         ((L.set n.toNat                   ⟨kd, ge, mo, us, ng, li, xrs, xrn, xws, xwn, ts, tn, (.rsl 24 0 z (some z) 0), (sized by_ z), vf, ta,                     ls, es, pa, nx⟩).set               n.toNat               ⟨kd, ge, mo, us, ng, li, xrs, xrn, ss, sn, ts, tn, (.rsl 24 0 z (some z) 0), (sized by_ z), vf, ta, ls,                 es, pa, nx⟩).set           n.toNat           ⟨kd, ge, mo, us, ng, li, xrs, xrn, ss, sn, ss, sn, (.rsl 24 0 z (some z) 0), (sized by_ z), vf, ta, ls, es,             pa, nx⟩,         ⟨kd, ge, mo, us, ng, li, xrs, xrn, ss, sn, ss, sn, (.rsl 24 0 z (some z) 0), (sized by_ z), vf, ta, ls, es, pa,           nx⟩)       _       ⟨Nat.le_of_ble_eq_true rfl, by         rw [show             deedK ⟨hm, mode, hu, user, hg, group, true, z, rh, rs, rn, wh, ws, wn⟩ ss sn                 (.rsl 24 0 (Int.toNat z) (some (Int.toNat z)) 0) 4 x =               deed4 ⟨hm, mode, hu, user, hg, group, true, z, rh, rs, rn, wh, ws, wn⟩ ss sn                 (.rsl 24 0 (Int.toNat z) (some (Int.toNat z)) 0)                 (deedK ⟨hm, mode, hu, user, hg, group, true, z, rh, rs, rn, wh, ws, wn⟩ ss sn                   (.rsl 24 0 (Int.toNat z) (some (Int.toNat z)) 0) 3 x)             from rfl,           ← hy];         rfl, hget3 _ _ _, hs3 _ _ _⟩       (Nat.le_of_ble_eq_true rfl) (by kernel_rfl))
  · cases q1 : rh == (2 : Int)
    · cases q2 : rh == (1 : Int)
      · cases hs
        · conv => whnf
          (refine call_inline (fn := Try.f34) rfl Try.func34 rfl rfl ?_)
          conv => whnf
          (refine call_inline (fn := Try.f33) rfl Try.func33 rfl rfl ?_)
          conv => whnf
          ((with_reducible cases z0 : rh == Int.ofNat 2) <;> try exact Bool.noConfusion (Eq.trans (Eq.symm z0) q1))
          conv => whnf
          (refine call_inline (fn := Try.f33) rfl Try.func33 rfl rfl ?_)
          conv => whnf
          ((with_reducible cases z1 : rh == Int.ofNat 1) <;> try exact Bool.noConfusion (Eq.trans (Eq.symm z1) q2))
          conv => whnf
          (refine ⟨by kernel_rfl, ?_⟩)
          conv => whnf
          (exact     ih (5, L, y) _       ⟨Nat.le_of_ble_eq_true rfl, by         rw [show             deedK ⟨hm, mode, hu, user, hg, group, false, size, rh, rs, rn, wh, ws, wn⟩ ss sn                 (.rsl 24 0 size.toNat (some size.toNat) 0) 5 x =               deed5 ⟨hm, mode, hu, user, hg, group, false, size, rh, rs, rn, wh, ws, wn⟩ ss sn                 (deedK ⟨hm, mode, hu, user, hg, group, false, size, rh, rs, rn, wh, ws, wn⟩ ss sn                   (.rsl 24 0 size.toNat (some size.toNat) 0) 4 x)             from rfl,           ← hy];         unfold deed5; dsimp only; rw [q1, q2]; rfl, hLy, hL⟩       (Nat.le_of_ble_eq_true rfl) (by kernel_rfl))
        · conv => whnf
          (refine call_inline (fn := Try.f34) rfl Try.func34 rfl rfl ?_)
          conv => whnf
          (refine call_inline (fn := Try.f33) rfl Try.func33 rfl rfl ?_)
          conv => whnf
          ((with_reducible cases z0 : rh == Int.ofNat 2) <;> try exact Bool.noConfusion (Eq.trans (Eq.symm z0) q1))
          conv => whnf
          (refine call_inline (fn := Try.f33) rfl Try.func33 rfl rfl ?_)
          conv => whnf
          ((with_reducible cases z1 : rh == Int.ofNat 1) <;> try exact Bool.noConfusion (Eq.trans (Eq.symm z1) q2))
          conv => whnf
          (refine ⟨by kernel_rfl, ?_⟩)
          conv => whnf
          (exact     ih (5, L, y) _       ⟨Nat.le_of_ble_eq_true rfl, by         rw [show             deedK ⟨hm, mode, hu, user, hg, group, true, size, rh, rs, rn, wh, ws, wn⟩ ss sn                 (.rsl 24 0 size.toNat (some size.toNat) 0) 5 x =               deed5 ⟨hm, mode, hu, user, hg, group, true, size, rh, rs, rn, wh, ws, wn⟩ ss sn                 (deedK ⟨hm, mode, hu, user, hg, group, true, size, rh, rs, rn, wh, ws, wn⟩ ss sn                   (.rsl 24 0 size.toNat (some size.toNat) 0) 4 x)             from rfl,           ← hy];         unfold deed5; dsimp only; rw [q1, q2]; rfl, hLy, hL⟩       (Nat.le_of_ble_eq_true rfl) (by kernel_rfl))
      · cases hs
        · conv => whnf
          (refine call_inline (fn := Try.f34) rfl Try.func34 rfl rfl ?_)
          conv => whnf
          (refine call_inline (fn := Try.f33) rfl Try.func33 rfl rfl ?_)
          conv => whnf
          ((with_reducible cases z0 : rh == Int.ofNat 2) <;> try exact Bool.noConfusion (Eq.trans (Eq.symm z0) q1))
          conv => whnf
          (refine call_inline (fn := Try.f33) rfl Try.func33 rfl rfl ?_)
          conv => whnf
          ((with_reducible cases z1 : rh == Int.ofNat 1) <;> try exact Bool.noConfusion (Eq.trans (Eq.symm z1) q2))
          conv => whnf
          (refine     runK_if ⟨rfl, rfl, (by show 0 + n.toNat * 25 + 6 + 2 ≤ (nodesA L).length; rw [nodesA_len, hLl]; omega), .inl rfl⟩       ?_)
          conv => whnf
          (refine     listK_of       (splice_nodes0 (k := 6) (x' :=         ⟨y.kind, y.gen, y.mode, y.user, y.group, y.links, ss, sn, y.ws, y.wn, y.ts, y.tn, y.data, y.bytes, y.verf,           y.target, y.list, y.ents, y.parent, y.next⟩)         hLy (Nat.le_of_ble_eq_true rfl) rfl)       ?_)
          conv => whnf
          (refine ⟨by kernel_rfl, ?_⟩)
          conv => whnf
          (refine     runK_if       ⟨rfl, rfl, (by show 0 + n.toNat * 25 + 10 + 2 ≤ (nodesA (L.set n.toNat _)).length; rw [nodesA_len, hlen1]; omega),         .inl rfl⟩       ?_)
          conv => whnf
          (refine     listK_of       (splice_nodes0 (k := 10) (x' :=         ⟨y.kind, y.gen, y.mode, y.user, y.group, y.links, ss, sn, y.ws, y.wn, ss, sn, y.data, y.bytes, y.verf, y.target,           y.list, y.ents, y.parent, y.next⟩)         (hget _) (Nat.le_of_ble_eq_true rfl) rfl)       ?_)
          conv => whnf
          (exact     ih       (5,         (L.set n.toNat               ⟨y.kind, y.gen, y.mode, y.user, y.group, y.links, ss, sn, y.ws, y.wn, y.ts, y.tn, y.data, y.bytes, y.verf,                 y.target, y.list, y.ents, y.parent, y.next⟩).set           n.toNat           ⟨y.kind, y.gen, y.mode, y.user, y.group, y.links, ss, sn, y.ws, y.wn, ss, sn, y.data, y.bytes, y.verf,             y.target, y.list, y.ents, y.parent, y.next⟩,         ⟨y.kind, y.gen, y.mode, y.user, y.group, y.links, ss, sn, y.ws, y.wn, ss, sn, y.data, y.bytes, y.verf, y.target,           y.list, y.ents, y.parent, y.next⟩)       _       ⟨Nat.le_of_ble_eq_true rfl, by         rw [show             deedK ⟨hm, mode, hu, user, hg, group, false, size, rh, rs, rn, wh, ws, wn⟩ ss sn                 (.rsl 24 0 size.toNat (some size.toNat) 0) 5 x =               deed5 ⟨hm, mode, hu, user, hg, group, false, size, rh, rs, rn, wh, ws, wn⟩ ss sn                 (deedK ⟨hm, mode, hu, user, hg, group, false, size, rh, rs, rn, wh, ws, wn⟩ ss sn                   (.rsl 24 0 size.toNat (some size.toNat) 0) 4 x)             from rfl,           ← hy];         unfold deed5; dsimp only; rw [q1, q2]; rfl, hget2 _ _, hs2 _ _⟩       (Nat.le_of_ble_eq_true rfl) (by kernel_rfl))
        · conv => whnf
          (refine call_inline (fn := Try.f34) rfl Try.func34 rfl rfl ?_)
          conv => whnf
          (refine call_inline (fn := Try.f33) rfl Try.func33 rfl rfl ?_)
          conv => whnf
          ((with_reducible cases z0 : rh == Int.ofNat 2) <;> try exact Bool.noConfusion (Eq.trans (Eq.symm z0) q1))
          conv => whnf
          (refine call_inline (fn := Try.f33) rfl Try.func33 rfl rfl ?_)
          conv => whnf
          ((with_reducible cases z1 : rh == Int.ofNat 1) <;> try exact Bool.noConfusion (Eq.trans (Eq.symm z1) q2))
          conv => whnf
          (refine     runK_if ⟨rfl, rfl, (by show 0 + n.toNat * 25 + 6 + 2 ≤ (nodesA L).length; rw [nodesA_len, hLl]; omega), .inl rfl⟩       ?_)
          conv => whnf
          (refine     listK_of       (splice_nodes0 (k := 6) (x' :=         ⟨y.kind, y.gen, y.mode, y.user, y.group, y.links, ss, sn, y.ws, y.wn, y.ts, y.tn, y.data, y.bytes, y.verf,           y.target, y.list, y.ents, y.parent, y.next⟩)         hLy (Nat.le_of_ble_eq_true rfl) rfl)       ?_)
          conv => whnf
          (refine ⟨by kernel_rfl, ?_⟩)
          conv => whnf
          (refine     runK_if       ⟨rfl, rfl, (by show 0 + n.toNat * 25 + 10 + 2 ≤ (nodesA (L.set n.toNat _)).length; rw [nodesA_len, hlen1]; omega),         .inl rfl⟩       ?_)
          conv => whnf
          (refine     listK_of       (splice_nodes0 (k := 10) (x' :=         ⟨y.kind, y.gen, y.mode, y.user, y.group, y.links, ss, sn, y.ws, y.wn, ss, sn, y.data, y.bytes, y.verf, y.target,           y.list, y.ents, y.parent, y.next⟩)         (hget _) (Nat.le_of_ble_eq_true rfl) rfl)       ?_)
          conv => whnf
          (exact     ih       (5,         (L.set n.toNat               ⟨y.kind, y.gen, y.mode, y.user, y.group, y.links, ss, sn, y.ws, y.wn, y.ts, y.tn, y.data, y.bytes, y.verf,                 y.target, y.list, y.ents, y.parent, y.next⟩).set           n.toNat           ⟨y.kind, y.gen, y.mode, y.user, y.group, y.links, ss, sn, y.ws, y.wn, ss, sn, y.data, y.bytes, y.verf,             y.target, y.list, y.ents, y.parent, y.next⟩,         ⟨y.kind, y.gen, y.mode, y.user, y.group, y.links, ss, sn, y.ws, y.wn, ss, sn, y.data, y.bytes, y.verf, y.target,           y.list, y.ents, y.parent, y.next⟩)       _       ⟨Nat.le_of_ble_eq_true rfl, by         rw [show             deedK ⟨hm, mode, hu, user, hg, group, true, size, rh, rs, rn, wh, ws, wn⟩ ss sn                 (.rsl 24 0 size.toNat (some size.toNat) 0) 5 x =               deed5 ⟨hm, mode, hu, user, hg, group, true, size, rh, rs, rn, wh, ws, wn⟩ ss sn                 (deedK ⟨hm, mode, hu, user, hg, group, true, size, rh, rs, rn, wh, ws, wn⟩ ss sn                   (.rsl 24 0 size.toNat (some size.toNat) 0) 4 x)             from rfl,           ← hy];         unfold deed5; dsimp only; rw [q1, q2]; rfl, hget2 _ _, hs2 _ _⟩       (Nat.le_of_ble_eq_true rfl) (by kernel_rfl))
    · cases hs
      · conv => whnf
        (refine call_inline (fn := Try.f34) rfl Try.func34 rfl rfl ?_)
        conv => whnf
        (refine call_inline (fn := Try.f33) rfl Try.func33 rfl rfl ?_)
        conv => whnf
        ((with_reducible cases z0 : rh == Int.ofNat 2) <;> try exact Bool.noConfusion (Eq.trans (Eq.symm z0) q1))
        conv => whnf
        (refine     runK_if ⟨rfl, rfl, (by show 0 + n.toNat * 25 + 6 + 2 ≤ (nodesA L).length; rw [nodesA_len, hLl]; omega), .inl rfl⟩       ?_)
        conv => whnf
        (refine     listK_of       (splice_nodes0 (k := 6) (x' :=         ⟨y.kind, y.gen, y.mode, y.user, y.group, y.links, rs, rn, y.ws, y.wn, y.ts, y.tn, y.data, y.bytes, y.verf,           y.target, y.list, y.ents, y.parent, y.next⟩)         hLy (Nat.le_of_ble_eq_true rfl) rfl)       ?_)
        conv => whnf
        (refine ⟨by kernel_rfl, ?_⟩)
        conv => whnf
        (refine     runK_if       ⟨rfl, rfl, (by show 0 + n.toNat * 25 + 10 + 2 ≤ (nodesA (L.set n.toNat _)).length; rw [nodesA_len, hlen1]; omega),         .inl rfl⟩       ?_)
        conv => whnf
        (refine     listK_of       (splice_nodes0 (k := 10) (x' :=         ⟨y.kind, y.gen, y.mode, y.user, y.group, y.links, rs, rn, y.ws, y.wn, ss, sn, y.data, y.bytes, y.verf, y.target,           y.list, y.ents, y.parent, y.next⟩)         (hget _) (Nat.le_of_ble_eq_true rfl) rfl)       ?_)
        conv => whnf
        (exact     ih       (5,         (L.set n.toNat               ⟨y.kind, y.gen, y.mode, y.user, y.group, y.links, rs, rn, y.ws, y.wn, y.ts, y.tn, y.data, y.bytes, y.verf,                 y.target, y.list, y.ents, y.parent, y.next⟩).set           n.toNat           ⟨y.kind, y.gen, y.mode, y.user, y.group, y.links, rs, rn, y.ws, y.wn, ss, sn, y.data, y.bytes, y.verf,             y.target, y.list, y.ents, y.parent, y.next⟩,         ⟨y.kind, y.gen, y.mode, y.user, y.group, y.links, rs, rn, y.ws, y.wn, ss, sn, y.data, y.bytes, y.verf, y.target,           y.list, y.ents, y.parent, y.next⟩)       _       ⟨Nat.le_of_ble_eq_true rfl, by         rw [show             deedK ⟨hm, mode, hu, user, hg, group, false, size, rh, rs, rn, wh, ws, wn⟩ ss sn                 (.rsl 24 0 size.toNat (some size.toNat) 0) 5 x =               deed5 ⟨hm, mode, hu, user, hg, group, false, size, rh, rs, rn, wh, ws, wn⟩ ss sn                 (deedK ⟨hm, mode, hu, user, hg, group, false, size, rh, rs, rn, wh, ws, wn⟩ ss sn                   (.rsl 24 0 size.toNat (some size.toNat) 0) 4 x)             from rfl,           ← hy];         unfold deed5; dsimp only; rw [q1]; rfl, hget2 _ _, hs2 _ _⟩       (Nat.le_of_ble_eq_true rfl) (by kernel_rfl))
      · conv => whnf
        (refine call_inline (fn := Try.f34) rfl Try.func34 rfl rfl ?_)
        conv => whnf
        (refine call_inline (fn := Try.f33) rfl Try.func33 rfl rfl ?_)
        conv => whnf
        ((with_reducible cases z0 : rh == Int.ofNat 2) <;> try exact Bool.noConfusion (Eq.trans (Eq.symm z0) q1))
        conv => whnf
        (refine     runK_if ⟨rfl, rfl, (by show 0 + n.toNat * 25 + 6 + 2 ≤ (nodesA L).length; rw [nodesA_len, hLl]; omega), .inl rfl⟩       ?_)
        conv => whnf
        (refine     listK_of       (splice_nodes0 (k := 6) (x' :=         ⟨y.kind, y.gen, y.mode, y.user, y.group, y.links, rs, rn, y.ws, y.wn, y.ts, y.tn, y.data, y.bytes, y.verf,           y.target, y.list, y.ents, y.parent, y.next⟩)         hLy (Nat.le_of_ble_eq_true rfl) rfl)       ?_)
        conv => whnf
        (refine ⟨by kernel_rfl, ?_⟩)
        conv => whnf
        (refine     runK_if       ⟨rfl, rfl, (by show 0 + n.toNat * 25 + 10 + 2 ≤ (nodesA (L.set n.toNat _)).length; rw [nodesA_len, hlen1]; omega),         .inl rfl⟩       ?_)
        conv => whnf
        (refine     listK_of       (splice_nodes0 (k := 10) (x' :=         ⟨y.kind, y.gen, y.mode, y.user, y.group, y.links, rs, rn, y.ws, y.wn, ss, sn, y.data, y.bytes, y.verf, y.target,           y.list, y.ents, y.parent, y.next⟩)         (hget _) (Nat.le_of_ble_eq_true rfl) rfl)       ?_)
        conv => whnf
        (exact     ih       (5,         (L.set n.toNat               ⟨y.kind, y.gen, y.mode, y.user, y.group, y.links, rs, rn, y.ws, y.wn, y.ts, y.tn, y.data, y.bytes, y.verf,                 y.target, y.list, y.ents, y.parent, y.next⟩).set           n.toNat           ⟨y.kind, y.gen, y.mode, y.user, y.group, y.links, rs, rn, y.ws, y.wn, ss, sn, y.data, y.bytes, y.verf,             y.target, y.list, y.ents, y.parent, y.next⟩,         ⟨y.kind, y.gen, y.mode, y.user, y.group, y.links, rs, rn, y.ws, y.wn, ss, sn, y.data, y.bytes, y.verf, y.target,           y.list, y.ents, y.parent, y.next⟩)       _       ⟨Nat.le_of_ble_eq_true rfl, by         rw [show             deedK ⟨hm, mode, hu, user, hg, group, true, size, rh, rs, rn, wh, ws, wn⟩ ss sn                 (.rsl 24 0 size.toNat (some size.toNat) 0) 5 x =               deed5 ⟨hm, mode, hu, user, hg, group, true, size, rh, rs, rn, wh, ws, wn⟩ ss sn                 (deedK ⟨hm, mode, hu, user, hg, group, true, size, rh, rs, rn, wh, ws, wn⟩ ss sn                   (.rsl 24 0 size.toNat (some size.toNat) 0) 4 x)             from rfl,           ← hy];         unfold deed5; dsimp only; rw [q1]; rfl, hget2 _ _, hs2 _ _⟩       (Nat.le_of_ble_eq_true rfl) (by kernel_rfl))
  · cases q1 : wh == (2 : Int)
    · cases q2 : wh == (1 : Int)
      · cases hs
        · conv => whnf
          (refine call_inline (fn := Try.f35) rfl Try.func35 rfl rfl ?_)
          conv => whnf
          (refine call_inline (fn := Try.f33) rfl Try.func33 rfl rfl ?_)
          conv => whnf
          ((with_reducible cases z0 : wh == Int.ofNat 2) <;> try exact Bool.noConfusion (Eq.trans (Eq.symm z0) q1))
          conv => whnf
          (refine call_inline (fn := Try.f33) rfl Try.func33 rfl rfl ?_)
          conv => whnf
          ((with_reducible cases z1 : wh == Int.ofNat 1) <;> try exact Bool.noConfusion (Eq.trans (Eq.symm z1) q2))
          conv => whnf
          (refine ⟨by kernel_rfl, ?_⟩)
          conv => whnf
          (exact     ih (6, L, y) _       ⟨Nat.le_of_ble_eq_true rfl, by         rw [show             deedK ⟨hm, mode, hu, user, hg, group, false, size, rh, rs, rn, wh, ws, wn⟩ ss sn                 (.rsl 24 0 size.toNat (some size.toNat) 0) 6 x =               deed6 ⟨hm, mode, hu, user, hg, group, false, size, rh, rs, rn, wh, ws, wn⟩ ss sn                 (deedK ⟨hm, mode, hu, user, hg, group, false, size, rh, rs, rn, wh, ws, wn⟩ ss sn                   (.rsl 24 0 size.toNat (some size.toNat) 0) 5 x)             from rfl,           ← hy];         unfold deed6; dsimp only; rw [q1, q2]; rfl, hLy, hL⟩       (Nat.le_of_ble_eq_true rfl) (by kernel_rfl))
        · conv => whnf
          (refine call_inline (fn := Try.f35) rfl Try.func35 rfl rfl ?_)
          conv => whnf
          (refine call_inline (fn := Try.f33) rfl Try.func33 rfl rfl ?_)
          conv => whnf
          ((with_reducible cases z0 : wh == Int.ofNat 2) <;> try exact Bool.noConfusion (Eq.trans (Eq.symm z0) q1))
          conv => whnf
          (refine call_inline (fn := Try.f33) rfl Try.func33 rfl rfl ?_)
          conv => whnf
          ((with_reducible cases z1 : wh == Int.ofNat 1) <;> try exact Bool.noConfusion (Eq.trans (Eq.symm z1) q2))
          conv => whnf
          (refine ⟨by kernel_rfl, ?_⟩)
          conv => whnf
          (exact     ih (6, L, y) _       ⟨Nat.le_of_ble_eq_true rfl, by         rw [show             deedK ⟨hm, mode, hu, user, hg, group, true, size, rh, rs, rn, wh, ws, wn⟩ ss sn                 (.rsl 24 0 size.toNat (some size.toNat) 0) 6 x =               deed6 ⟨hm, mode, hu, user, hg, group, true, size, rh, rs, rn, wh, ws, wn⟩ ss sn                 (deedK ⟨hm, mode, hu, user, hg, group, true, size, rh, rs, rn, wh, ws, wn⟩ ss sn                   (.rsl 24 0 size.toNat (some size.toNat) 0) 5 x)             from rfl,           ← hy];         unfold deed6; dsimp only; rw [q1, q2]; rfl, hLy, hL⟩       (Nat.le_of_ble_eq_true rfl) (by kernel_rfl))
      · cases hs
        · conv => whnf
          (refine call_inline (fn := Try.f35) rfl Try.func35 rfl rfl ?_)
          conv => whnf
          (refine call_inline (fn := Try.f33) rfl Try.func33 rfl rfl ?_)
          conv => whnf
          ((with_reducible cases z0 : wh == Int.ofNat 2) <;> try exact Bool.noConfusion (Eq.trans (Eq.symm z0) q1))
          conv => whnf
          (refine call_inline (fn := Try.f33) rfl Try.func33 rfl rfl ?_)
          conv => whnf
          ((with_reducible cases z1 : wh == Int.ofNat 1) <;> try exact Bool.noConfusion (Eq.trans (Eq.symm z1) q2))
          conv => whnf
          (refine     runK_if ⟨rfl, rfl, (by show 0 + n.toNat * 25 + 8 + 2 ≤ (nodesA L).length; rw [nodesA_len, hLl]; omega), .inl rfl⟩       ?_)
          conv => whnf
          (refine     listK_of       (splice_nodes0 (k := 8) (x' :=         ⟨y.kind, y.gen, y.mode, y.user, y.group, y.links, y.rs, y.rn, ss, sn, y.ts, y.tn, y.data, y.bytes, y.verf,           y.target, y.list, y.ents, y.parent, y.next⟩)         hLy (Nat.le_of_ble_eq_true rfl) rfl)       ?_)
          conv => whnf
          (refine ⟨by kernel_rfl, ?_⟩)
          conv => whnf
          (refine     runK_if       ⟨rfl, rfl, (by show 0 + n.toNat * 25 + 10 + 2 ≤ (nodesA (L.set n.toNat _)).length; rw [nodesA_len, hlen1]; omega),         .inl rfl⟩       ?_)
          conv => whnf
          (refine     listK_of       (splice_nodes0 (k := 10) (x' :=         ⟨y.kind, y.gen, y.mode, y.user, y.group, y.links, y.rs, y.rn, ss, sn, ss, sn, y.data, y.bytes, y.verf, y.target,           y.list, y.ents, y.parent, y.next⟩)         (hget _) (Nat.le_of_ble_eq_true rfl) rfl)       ?_)
          conv => whnf
          (exact     ih       (6,         (L.set n.toNat               ⟨y.kind, y.gen, y.mode, y.user, y.group, y.links, y.rs, y.rn, ss, sn, y.ts, y.tn, y.data, y.bytes, y.verf,                 y.target, y.list, y.ents, y.parent, y.next⟩).set           n.toNat           ⟨y.kind, y.gen, y.mode, y.user, y.group, y.links, y.rs, y.rn, ss, sn, ss, sn, y.data, y.bytes, y.verf,             y.target, y.list, y.ents, y.parent, y.next⟩,         ⟨y.kind, y.gen, y.mode, y.user, y.group, y.links, y.rs, y.rn, ss, sn, ss, sn, y.data, y.bytes, y.verf, y.target,           y.list, y.ents, y.parent, y.next⟩)       _       ⟨Nat.le_of_ble_eq_true rfl, by         rw [show             deedK ⟨hm, mode, hu, user, hg, group, false, size, rh, rs, rn, wh, ws, wn⟩ ss sn                 (.rsl 24 0 size.toNat (some size.toNat) 0) 6 x =               deed6 ⟨hm, mode, hu, user, hg, group, false, size, rh, rs, rn, wh, ws, wn⟩ ss sn                 (deedK ⟨hm, mode, hu, user, hg, group, false, size, rh, rs, rn, wh, ws, wn⟩ ss sn                   (.rsl 24 0 size.toNat (some size.toNat) 0) 5 x)             from rfl,           ← hy];         unfold deed6; dsimp only; rw [q1, q2]; rfl, hget2 _ _, hs2 _ _⟩       (Nat.le_of_ble_eq_true rfl) (by kernel_rfl))
        · conv => whnf
          (refine call_inline (fn := Try.f35) rfl Try.func35 rfl rfl ?_)
          conv => whnf
          (refine call_inline (fn := Try.f33) rfl Try.func33 rfl rfl ?_)
          conv => whnf
          ((with_reducible cases z0 : wh == Int.ofNat 2) <;> try exact Bool.noConfusion (Eq.trans (Eq.symm z0) q1))
          conv => whnf
          (refine call_inline (fn := Try.f33) rfl Try.func33 rfl rfl ?_)
          conv => whnf
          ((with_reducible cases z1 : wh == Int.ofNat 1) <;> try exact Bool.noConfusion (Eq.trans (Eq.symm z1) q2))
          conv => whnf
          (refine     runK_if ⟨rfl, rfl, (by show 0 + n.toNat * 25 + 8 + 2 ≤ (nodesA L).length; rw [nodesA_len, hLl]; omega), .inl rfl⟩       ?_)
          conv => whnf
          (refine     listK_of       (splice_nodes0 (k := 8) (x' :=         ⟨y.kind, y.gen, y.mode, y.user, y.group, y.links, y.rs, y.rn, ss, sn, y.ts, y.tn, y.data, y.bytes, y.verf,           y.target, y.list, y.ents, y.parent, y.next⟩)         hLy (Nat.le_of_ble_eq_true rfl) rfl)       ?_)
          conv => whnf
          (refine ⟨by kernel_rfl, ?_⟩)
          conv => whnf
          (refine     runK_if       ⟨rfl, rfl, (by show 0 + n.toNat * 25 + 10 + 2 ≤ (nodesA (L.set n.toNat _)).length; rw [nodesA_len, hlen1]; omega),         .inl rfl⟩       ?_)
          conv => whnf
          (refine     listK_of       (splice_nodes0 (k := 10) (x' :=         ⟨y.kind, y.gen, y.mode, y.user, y.group, y.links, y.rs, y.rn, ss, sn, ss, sn, y.data, y.bytes, y.verf, y.target,           y.list, y.ents, y.parent, y.next⟩)         (hget _) (Nat.le_of_ble_eq_true rfl) rfl)       ?_)
          conv => whnf
          (exact     ih       (6,         (L.set n.toNat               ⟨y.kind, y.gen, y.mode, y.user, y.group, y.links, y.rs, y.rn, ss, sn, y.ts, y.tn, y.data, y.bytes, y.verf,                 y.target, y.list, y.ents, y.parent, y.next⟩).set           n.toNat           ⟨y.kind, y.gen, y.mode, y.user, y.group, y.links, y.rs, y.rn, ss, sn, ss, sn, y.data, y.bytes, y.verf,             y.target, y.list, y.ents, y.parent, y.next⟩,         ⟨y.kind, y.gen, y.mode, y.user, y.group, y.links, y.rs, y.rn, ss, sn, ss, sn, y.data, y.bytes, y.verf, y.target,           y.list, y.ents, y.parent, y.next⟩)       _       ⟨Nat.le_of_ble_eq_true rfl, by         rw [show             deedK ⟨hm, mode, hu, user, hg, group, true, size, rh, rs, rn, wh, ws, wn⟩ ss sn                 (.rsl 24 0 size.toNat (some size.toNat) 0) 6 x =               deed6 ⟨hm, mode, hu, user, hg, group, true, size, rh, rs, rn, wh, ws, wn⟩ ss sn                 (deedK ⟨hm, mode, hu, user, hg, group, true, size, rh, rs, rn, wh, ws, wn⟩ ss sn                   (.rsl 24 0 size.toNat (some size.toNat) 0) 5 x)             from rfl,           ← hy];         unfold deed6; dsimp only; rw [q1, q2]; rfl, hget2 _ _, hs2 _ _⟩       (Nat.le_of_ble_eq_true rfl) (by kernel_rfl))
    · cases hs
      · conv => whnf
        (refine call_inline (fn := Try.f35) rfl Try.func35 rfl rfl ?_)
        conv => whnf
        (refine call_inline (fn := Try.f33) rfl Try.func33 rfl rfl ?_)
        conv => whnf
        ((with_reducible cases z0 : wh == Int.ofNat 2) <;> try exact Bool.noConfusion (Eq.trans (Eq.symm z0) q1))
        conv => whnf
        (refine     runK_if ⟨rfl, rfl, (by show 0 + n.toNat * 25 + 8 + 2 ≤ (nodesA L).length; rw [nodesA_len, hLl]; omega), .inl rfl⟩       ?_)
        conv => whnf
        (refine     listK_of       (splice_nodes0 (k := 8) (x' :=         ⟨y.kind, y.gen, y.mode, y.user, y.group, y.links, y.rs, y.rn, ws, wn, y.ts, y.tn, y.data, y.bytes, y.verf,           y.target, y.list, y.ents, y.parent, y.next⟩)         hLy (Nat.le_of_ble_eq_true rfl) rfl)       ?_)
        conv => whnf
        (refine ⟨by kernel_rfl, ?_⟩)
        conv => whnf
        (refine     runK_if       ⟨rfl, rfl, (by show 0 + n.toNat * 25 + 10 + 2 ≤ (nodesA (L.set n.toNat _)).length; rw [nodesA_len, hlen1]; omega),         .inl rfl⟩       ?_)
        conv => whnf
        (refine     listK_of       (splice_nodes0 (k := 10) (x' :=         ⟨y.kind, y.gen, y.mode, y.user, y.group, y.links, y.rs, y.rn, ws, wn, ss, sn, y.data, y.bytes, y.verf, y.target,           y.list, y.ents, y.parent, y.next⟩)         (hget _) (Nat.le_of_ble_eq_true rfl) rfl)       ?_)
        conv => whnf
        (exact     ih       (6,         (L.set n.toNat               ⟨y.kind, y.gen, y.mode, y.user, y.group, y.links, y.rs, y.rn, ws, wn, y.ts, y.tn, y.data, y.bytes, y.verf,                 y.target, y.list, y.ents, y.parent, y.next⟩).set           n.toNat           ⟨y.kind, y.gen, y.mode, y.user, y.group, y.links, y.rs, y.rn, ws, wn, ss, sn, y.data, y.bytes, y.verf,             y.target, y.list, y.ents, y.parent, y.next⟩,         ⟨y.kind, y.gen, y.mode, y.user, y.group, y.links, y.rs, y.rn, ws, wn, ss, sn, y.data, y.bytes, y.verf, y.target,           y.list, y.ents, y.parent, y.next⟩)       _       ⟨Nat.le_of_ble_eq_true rfl, by         rw [show             deedK ⟨hm, mode, hu, user, hg, group, false, size, rh, rs, rn, wh, ws, wn⟩ ss sn                 (.rsl 24 0 size.toNat (some size.toNat) 0) 6 x =               deed6 ⟨hm, mode, hu, user, hg, group, false, size, rh, rs, rn, wh, ws, wn⟩ ss sn                 (deedK ⟨hm, mode, hu, user, hg, group, false, size, rh, rs, rn, wh, ws, wn⟩ ss sn                   (.rsl 24 0 size.toNat (some size.toNat) 0) 5 x)             from rfl,           ← hy];         unfold deed6; dsimp only; rw [q1]; rfl, hget2 _ _, hs2 _ _⟩       (Nat.le_of_ble_eq_true rfl) (by kernel_rfl))
      · conv => whnf
        (refine call_inline (fn := Try.f35) rfl Try.func35 rfl rfl ?_)
        conv => whnf
        (refine call_inline (fn := Try.f33) rfl Try.func33 rfl rfl ?_)
        conv => whnf
        ((with_reducible cases z0 : wh == Int.ofNat 2) <;> try exact Bool.noConfusion (Eq.trans (Eq.symm z0) q1))
        conv => whnf
        (refine     runK_if ⟨rfl, rfl, (by show 0 + n.toNat * 25 + 8 + 2 ≤ (nodesA L).length; rw [nodesA_len, hLl]; omega), .inl rfl⟩       ?_)
        conv => whnf
        (refine     listK_of       (splice_nodes0 (k := 8) (x' :=         ⟨y.kind, y.gen, y.mode, y.user, y.group, y.links, y.rs, y.rn, ws, wn, y.ts, y.tn, y.data, y.bytes, y.verf,           y.target, y.list, y.ents, y.parent, y.next⟩)         hLy (Nat.le_of_ble_eq_true rfl) rfl)       ?_)
        conv => whnf
        (refine ⟨by kernel_rfl, ?_⟩)
        conv => whnf
        (refine     runK_if       ⟨rfl, rfl, (by show 0 + n.toNat * 25 + 10 + 2 ≤ (nodesA (L.set n.toNat _)).length; rw [nodesA_len, hlen1]; omega),         .inl rfl⟩       ?_)
        conv => whnf
        (refine     listK_of       (splice_nodes0 (k := 10) (x' :=         ⟨y.kind, y.gen, y.mode, y.user, y.group, y.links, y.rs, y.rn, ws, wn, ss, sn, y.data, y.bytes, y.verf, y.target,           y.list, y.ents, y.parent, y.next⟩)         (hget _) (Nat.le_of_ble_eq_true rfl) rfl)       ?_)
        conv => whnf
        (exact     ih       (6,         (L.set n.toNat               ⟨y.kind, y.gen, y.mode, y.user, y.group, y.links, y.rs, y.rn, ws, wn, y.ts, y.tn, y.data, y.bytes, y.verf,                 y.target, y.list, y.ents, y.parent, y.next⟩).set           n.toNat           ⟨y.kind, y.gen, y.mode, y.user, y.group, y.links, y.rs, y.rn, ws, wn, ss, sn, y.data, y.bytes, y.verf,             y.target, y.list, y.ents, y.parent, y.next⟩,         ⟨y.kind, y.gen, y.mode, y.user, y.group, y.links, y.rs, y.rn, ws, wn, ss, sn, y.data, y.bytes, y.verf, y.target,           y.list, y.ents, y.parent, y.next⟩)       _       ⟨Nat.le_of_ble_eq_true rfl, by         rw [show             deedK ⟨hm, mode, hu, user, hg, group, true, size, rh, rs, rn, wh, ws, wn⟩ ss sn                 (.rsl 24 0 size.toNat (some size.toNat) 0) 6 x =               deed6 ⟨hm, mode, hu, user, hg, group, true, size, rh, rs, rn, wh, ws, wn⟩ ss sn                 (deedK ⟨hm, mode, hu, user, hg, group, true, size, rh, rs, rn, wh, ws, wn⟩ ss sn                   (.rsl 24 0 size.toNat (some size.toNat) 0) 5 x)             from rfl,           ← hy];         unfold deed6; dsimp only; rw [q1]; rfl, hget2 _ _, hs2 _ _⟩       (Nat.le_of_ble_eq_true rfl) (by kernel_rfl))
  · cases hs
    · conv => whnf
      (exact hQ L y hy hLy hL)
    · conv => whnf
      (exact hQ L y hy hLy hL)
end Go.Proofs.Ytlglhnadalbddaa.Ab
/- Over the engine: what is set of a node. -/
namespace Go.Proofs.Ytlglhnadalbddaa.Ab
open Go Go.RowKit

set_option maxRecDepth 100000
def worldA (ss sn : Int) (bo : Nat → Int) : AV := .agg [.int .u32 ss, .int .u32 sn, .int .u8 (bo 0), .int .u8 (bo 1), .int .u8 (bo 2), .int .u8 (bo 3), .int .u8 (bo 4), .int .u8 (bo 5), .int .u8 (bo 6), .int .u8 (bo 7)]
theorem seal_tup2 {d : List AB → List AV → List AV × List AB} {bs bs' : List AB} {v v' : AV} {k k2 : IntKind} {g e : Int} (h : sealV d bs v = (v', bs')) : sealV d bs (.tup [.agg [v, .int k g], .int k2 e]) = (.tup [.agg [v', .int k g], .int k2 e], bs') := by
  simp only [sealV, sealVL, h]
theorem nodeA_clean {x : NodeS} (h1 : x.data.clean = true) (h2 : x.list.clean = true) : cleanL (nodeA x) = true := by
  unfold nodeA
  simp only [cleanL, h1, h2, AV.clean, Bool.and_self]
theorem nodesA_clean : ∀ {l : List NodeS}, (∀ x ∈ l, x.data.clean = true ∧ x.list.clean = true) → cleanL (nodesA l) = true
  | [], _ => rfl
  | x :: l, h => by
    show cleanL (nodeA x ++ nodesA l) = true
    rw [cleanL_app, nodeA_clean (h x (List.mem_cons_self ..)).1 (h x (List.mem_cons_self ..)).2, nodesA_clean fun y hy => h y (List.mem_cons_of_mem _ hy)]
    rfl
theorem row_clean {k : IntKind} {v : AV} {l : List Int} (h : rowOk k v l) : v.clean = true := by
  rcases h with ⟨rfl, _⟩ | ⟨t, rfl⟩ <;> rfl
theorem ents_clean {v : AV} {l : List EntryS} (h : entsOk v l) : v.clean = true := by
  rcases h with ⟨rfl, _⟩ | ⟨t, rfl⟩ <;> rfl
/-- A row of bytes that was made here is written no more. -/
theorem sealV_bytes {d : List AB → List AV → List AV × List AB} {bs : List AB} {b z : Nat} {c : List AV} (hb : bs[b]? = some (.cells c ⟨true, 1, false, true⟩)) (hc : c.length = z) : sealV d bs (.rsl b 0 z (some z) 0) = (.sl c z true, bs.set b (.cells c ⟨true, 1, false, false⟩)) := by
  have hs : sealB d bs b 0 = some (c, ⟨true, 1, false, true⟩, bs.set b (.cells c ⟨true, 1, false, false⟩)) := by
    unfold sealB
    simp only [hb]
    rfl
  simp only [sealV, hs, tightA, decide_true, Nat.mul_one]
  rw [if_pos ⟨by omega, by decide⟩, if_pos ⟨trivial, hc⟩]
/-- The nodes, of which one has such bytes. -/
theorem sealVL_one {d : List AB → List AV → List AV × List AB} {bs : List AB} {b z : Nat} {c : List AV} (hb : bs[b]? = some (.cells c ⟨true, 1, false, true⟩)) (hc : c.length = z) : ∀ (l : List NodeS) (i : Nat) (y : NodeS), (∀ x ∈ l, x.data.clean = true ∧ x.list.clean = true) → i < l.length → y.data = .rsl b 0 z (some z) 0 → y.list.clean = true →
    sealVL d bs (nodesA (l.set i y)) = (nodesA (l.set i { y with data := .sl c z true }), bs.set b (.cells c ⟨true, 1, false, false⟩))
  | [], i, y, _, hi, _, _ => by simp at hi
  | x :: l, 0, y, hl, _, hy, hyl => by
    show sealVL d bs (nodeA y ++ nodesA l) = (nodeA { y with data := .sl c z true } ++ nodesA l, _)
    have h1 : sealVL d bs (nodeA y) = (nodeA { y with data := .sl c z true }, bs.set b (.cells c ⟨true, 1, false, false⟩)) := by
      unfold nodeA
      have hl2 : ∀ bs, sealV d bs y.list = (y.list, bs) := fun bs => sealV_clean d bs _ hyl
      have hd2 : sealV d bs y.data = (.sl c z true, bs.set b (.cells c ⟨true, 1, false, false⟩)) := by rw [hy]; exact sealV_bytes hb hc
      have hi2 : ∀ (bs : List AB) (k : IntKind) (n : Int), sealV d bs (.int k n) = (.int k n, bs) := fun bs k n => by simp only [sealV]
      have hs2 : ∀ (bs : List AB) (n : List UInt8), sealV d bs (.str n) = (.str n, bs) := fun bs n => by simp only [sealV]
      simp only [sealVL, hl2, hd2, hi2, hs2]
    rw [sealVL_app, h1, sealVL_clean d _ (nodesA l) (nodesA_clean fun x hx => hl x (List.mem_cons_of_mem _ hx))]
  | x :: l, i + 1, y, hl, hi, hy, hyl => by
    show sealVL d bs (nodeA x ++ nodesA (l.set i y)) = (nodeA x ++ nodesA (l.set i { y with data := .sl c z true }), _)
    rw [sealVL_app, sealVL_clean d bs (nodeA x) (nodeA_clean (hl x (List.mem_cons_self ..)).1 (hl x (List.mem_cons_self ..)).2), sealVL_one hb hc l i y (fun x hx => hl x (List.mem_cons_of_mem _ hx)) (by simpa using hi) hy hyl]
theorem deeds_d (s : SetS) (ss sn : Int) (d d' : AV) (x : NodeS) (h : s.hs = false) : deeds s ss sn d x = deeds s ss sn d' x := by
  unfold deeds deed4
  rw [h, if_neg (by decide), if_neg (by decide)]
theorem deeds_with (s : SetS) (ss sn : Int) (d d' : AV) (x : NodeS) (h : s.hs = true) : { deeds s ss sn d x with data := d' } = deeds s ss sn d' x ∧ (deeds s ss sn d x).data = d := by
  unfold deeds deed4
  rw [if_pos h, if_pos h]
  generalize deed3 s ss sn (deed2 s ss sn (deed1 s ss sn x)) = y
  unfold deed6 deed5
  cases (s.wh == 2) <;> cases (s.wh == 1) <;> cases (s.rh == 2) <;> cases (s.rh == 1) <;> exact ⟨rfl, rfl⟩
theorem deeds_list (s : SetS) (ss sn : Int) (d : AV) (x : NodeS) : (deeds s ss sn d x).list = x.list := by
  simp only [deeds, deed6, deed5, deed4, deed3, deed2, deed1, apply_ite NodeS.list, ite_self]
theorem deeds_data (s : SetS) (ss sn : Int) (d : AV) (x : NodeS) : (deeds s ss sn d x).data = if s.hs = true then d else x.data := by
  simp only [deeds, deed6, deed5, deed4, deed3, deed2, deed1, apply_ite NodeS.data, ite_self]
/-- What is set of a node's tree. -/
def setN (ns : List NodeS) (n : Int) (s : SetS) (ss sn : Int) (x : NodeS) : List NodeS := (ns.map cloneN).set n.toNat (deeds s ss sn (.sl (numsA .u8 (sized x.bytes s.size.toNat)) s.size.toNat true) (cloneN x))

set_option maxHeartbeats 8000000 in
theorem set_ok (m : Nat) (from_ : FuncId) (h : H) (ns : List NodeS) (t : Bool) (gen n : Int) (c : CredS) (hc : c.ok) (s : SetS) (ss sn : Int) (bo : Nat → Int) (hok : ∀ x ∈ ns, x.fit) (hn : thereS ns n = true) (x : NodeS) (hx : ns[n.toNat]? = some x) (hlen : ns.length ≤ 300) (hsz : 0 ≤ s.size) (hsm : s.hs = true → s.size ≤ 65536)
    (e1 : formS s sn = 0) (e2 : ownerS x c s (ownsS ns n c) = false) (e3 : sizeB x s (ownsS ns n c || mayX x c 2) = 0) (e4 : stampsB s (ownsS ns n c) (ownsS ns n c || mayX x c 2) = 0) : evCall TE (m + 7) from_ (.fn 7 [] []) [.agg [.sl (nodesA ns) ns.length t, .int .u32 gen], .int .i64 n, .agg [.int .u32 c.user, .int .u32 c.group, c.gs], .agg (setA s), worldA ss sn bo] h = some (.ret (.tup [.agg [.sl (nodesA (setN ns n s ss sn x)) ns.length true, .int .u32 gen], .int .u32 0]), h) := by
  obtain ⟨w, hw⟩ : ∃ w, w = setN ns n s ss sn x := ⟨_, rfl⟩
  rw [← hw]
  have c1 : ∀ (f : FuncId) (h : H), (evAll TE (m + 6)).1 f (.fn 10 [] []) [.agg [.sl (nodesA ns) ns.length t, .int .u32 gen], .int .i64 n] h = some (.ret (.tup [.agg (attrsS x n), .bool true]), h) := fun f h => attrs_some (m + 4) f h _ ns (.inr ⟨t, rfl⟩) gen n x hn hx (hok x (List.mem_of_getElem? hx)).1
  have c2 : ∀ (f : FuncId) (h : H), (evAll TE (m + 6)).1 f (.fn 22 [] []) [.agg [.sl (nodesA ns) ns.length t, .int .u32 gen], .int .i64 n, .agg [.int .u32 c.user, .int .u32 c.group, c.gs]] h = some (.ret (.bool (ownsS ns n c)), h) := fun f h => owns_c (m + 3) f h _ ns (.inr ⟨t, rfl⟩) (fun x hx => (hok x hx).1) gen n c hc
  generalize ownsS ns n c = ow at *
  have hcl : cleanL [askA (.sl (nodesA ns) ns.length t) gen n c s ss sn ow] = true := by
    unfold askA
    rcases hc.1 with ⟨hg, _⟩ | ⟨tt, hg⟩ <;> rw [hg] <;> rfl
  have hrw : ∀ f g : FuncId, (g = 23 ∨ g = 24 ∨ g = 25 ∨ g = 26) → TE.raw f g = false := by
    intro f g hg
    rcases hg with rfl | rfl | rfl | rfl <;> rfl
  have c3 : ∀ (f : FuncId) (h : H), (evAll TE (m + 6)).1 f (.fn 23 [askA (.sl (nodesA ns) ns.length t) gen n c s ss sn ow] []) [] h = some (.ret (.int .u32 (formS s sn)), h) := fun f h => (call_bound hcl (hrw f _ (.inl rfl))).trans <| form_c (m + 4) f h ns t gen n c hc s ss sn ow
  have c4 : ∀ (f : FuncId) (h : H), (evAll TE (m + 6)).1 f (.fn 24 [askA (.sl (nodesA ns) ns.length t) gen n c s ss sn ow] []) [] h = some (.ret (.int .u32 (if ownerS x c s ow = true then 1 else 0)), h) := fun f h => (call_bound hcl (hrw f _ (.inr (.inl rfl)))).trans <| owner_c (m + 1) f h ns t gen n c hc s ss sn ow (fun x hx => (hok x hx).1) hn x hx
  have c5 : ∀ (f : FuncId) (h : H), (evAll TE (m + 6)).1 f (.fn 25 [askA (.sl (nodesA ns) ns.length t) gen n c s ss sn ow] []) [] h = some (.ret (.int .u32 (sizeB x s (ow || mayX x c 2))), h) := fun f h => (call_bound hcl (hrw f _ (.inr (.inr (.inl rfl))))).trans <| size_c m f h ns t gen n c hc s ss sn ow (fun x hx => (hok x hx).1) hn x hx
  have c6 : ∀ (f : FuncId) (h : H), (evAll TE (m + 6)).1 f (.fn 26 [askA (.sl (nodesA ns) ns.length t) gen n c s ss sn ow] []) [] h = some (.ret (.int .u32 (stampsB s ow (ow || mayX x c 2))), h) := fun f h => (call_bound hcl (hrw f _ (.inr (.inr (.inr rfl))))).trans <| stamps_c m f h ns t gen n c hc s ss sn ow (fun x hx => (hok x hx).1) hn x hx
  rw [e1] at c3
  rw [e2] at c4
  rw [e3] at c5
  rw [e4] at c6
  have hn0 : 0 ≤ n := by unfold thereS at hn; rw [Bool.and_eq_true, Bool.and_eq_true, decide_eq_true_eq, decide_eq_true_eq] at hn; omega
  have hn1 : n < ns.length := by unfold thereS at hn; rw [Bool.and_eq_true, Bool.and_eq_true, decide_eq_true_eq, decide_eq_true_eq] at hn; omega
  unfold askA at c3 c4 c5 c6
  obtain ⟨u, gr, gs, l⟩ := c
  dsimp only at c1 c2 c3 c4 c5 c6 ⊢
  obtain ⟨hm, mode, hu, user, hg, group, hs, size, rh, rs, rn, wh, ws, wn⟩ := s
  unfold attrsS at c1
  unfold setA worldA
  dsimp only at c3 c4 c5 c6 ⊢
  dsimp only at hsz hsm
  have hcN : ∀ y ∈ ns.map cloneN, y.data.clean = true ∧ y.list.clean = true := by
    intro y hy
    obtain ⟨z, hz, rfl⟩ := List.mem_map.1 hy
    exact ⟨row_clean (bytesC_ok (hok z hz).1.1), ents_clean (entsC_ok (hok z hz).1.2)⟩
  have hxm : (ns.map cloneN)[n.toNat]? = some (cloneN x) := by rw [List.getElem?_map, hx]; rfl
  have hxo := (hok x (List.mem_of_getElem? hx)).1
  obtain ⟨h1, h2⟩ := hc
  dsimp only at h1 h2
  rcases h1 with ⟨rfl, rfl⟩ | ⟨tt, rfl⟩
  · refine call_cleanE (fn := Try.f7) rfl Try.func7 rfl rfl rfl rfl rfl (Nat.le_of_ble_eq_true rfl) ?_
    intro End hE
    conv => whnf
    with_reducible refine ⟨_, _, c1 _ _, ?_⟩
    conv => whnf
    with_reducible refine ⟨_, _, c2 _ _, ?_⟩
    conv => whnf
    (refine ⟨rfl, ?_⟩)
    conv => whnf
    (refine ⟨by kernel_rfl, ?_⟩)
    conv => whnf
    (with_reducible refine ⟨(5 : Nat), ?_, ?_⟩; · exact Nat.le_of_ble_eq_true rfl)
    conv => whnf
    with_reducible refine ⟨_, _, c3 _ _, ?_⟩
    conv => whnf
    with_reducible refine ⟨_, _, c4 _ _, ?_⟩
    conv => whnf
    with_reducible refine ⟨_, _, c5 _ _, ?_⟩
    conv => whnf
    with_reducible refine ⟨_, _, c6 _ _, ?_⟩
    conv => whnf
    (refine clone_K (m + 4) _ _ ns t gen hok hlen _ _ _ _ _ _ _ _ _ _ _ _ _ _ _ _ _ _ _ rfl ?_)
    conv => whnf
    (refine runK_ret (ev_indexRsl (sz := 25) rfl rfl rfl rfl hn0 hn1) ?_)
    conv => whnf
    refine deeds_K (.cells [.rsl 21 0 ns.length (some ns.length) 0, .int .u32 gen] ⟨false, 0, false, true⟩) (.cells [.int .u32 u, .int .u32 gr, .sl0] ⟨false, 0, false, true⟩) (.cells [.sl0, .int .u32 0] ⟨false, 0, false, true⟩) (.cells [.int .u32 x.kind, .int .u32 x.mode, .int .u32 (IntKind.wrap .u32 x.links), .int .u32 x.user, .int .u32 x.group, .int .u64 (IntKind.wrap .u64 (sizeS x)), .int .u64 (IntKind.wrap .u64 (sizeS x)), .int .u64 (IntKind.wrap .u64 n), .int .u32 x.rs, .int .u32 x.rn, .int .u32 x.ws, .int .u32 x.wn, .int .u32 x.ts, .int .u32 x.tn] ⟨false, 0, false, true⟩) .void .void .void .void .void .void .void .void .void .void .void (.cells [.sl (nodesA ns) ns.length t, .int .u32 gen, .int .i64 n, .int .u32 u, .int .u32 gr, .sl0, .bool hm, .int .u32 mode, .bool hu, .int .u32 user, .bool hg, .int .u32 group, .bool hs, .int .u64 size, .int .u32 rh, .int .u32 rs, .int .u32 rn, .int .u32 wh, .int .u32 ws, .int .u32 wn, .int .u32 ss, .int .u32 sn, .bool ow] ⟨false, 0, false, true⟩) .void (.cells [.rsl 21 0 ns.length (some ns.length) 0, .int .u32 gen] ⟨false, 0, false, true⟩) (.cells [.rsl 21 0 ns.length (some ns.length) 0, .int .u32 gen] ⟨false, 0, false, true⟩) ⟨hm, mode, hu, user, hg, group, hs, size, rh, rs, rn, wh, ws, wn⟩ ss sn bo n (m + 3) _ _ _ (ns.map cloneN) (cloneN x) (by rw [List.length_map]; exact hlen) hn0 (by rw [List.length_map]; exact hn1) hxm (bytesC_ok hxo.1) hsz hsm (by kernel_rfl) ?_
    intro L y hy hLy hL
    have hLl : (nodesA L).length = ns.length * 25 := by rw [nodesA_len, hL, List.length_set, List.length_map]
    cases hs with
    | false =>
      have hw2 : w = L := by
        rw [hw, hL, hy]
        unfold setN
        rw [deeds_d _ ss sn _ (.rsl 24 0 (Int.toNat size) (some (Int.toNat size)) 0) (cloneN x) rfl]
      have hcl2 : cleanL (nodesA L) = true := by
        refine nodesA_clean fun z hz => ?_
        rw [hL] at hz
        rcases List.mem_or_eq_of_mem_set hz with h | rfl
        · exact hcN z h
        · rw [hy, deeds_data, deeds_list, if_neg (fun h => Bool.noConfusion h)]
          exact hcN _ (List.mem_of_getElem? hxm)
      rw [hw2] at hE
      conv => whnf
      (refine     hE _ _ [.agg [.rsl 21 0 ns.length (some ns.length) 0, .int .u32 gen], .int .u32 0] _ _ (.inr rfl) (by kernel_rfl)       (leaveA_of         (seal_tup2           (seal_deep rfl rfl rfl rfl (sealVL_clean _ _ _ hcl2) rfl hcl2 rfl rfl rfl rfl rfl hLl             (Nat.le_of_ble_eq_true rfl)))         rfl rfl)       ?_)
      conv => whnf
      (simp only [tightA, decide_true])
    | true =>
      have hzs : (numsA .u8 y.bytes).length = size.toNat := by
        rw [hy, deeds_bytes, if_pos rfl]
        simp [numsA, sized_len]
      have hdd := deeds_with ⟨hm, mode, hu, user, hg, group, true, size, rh, rs, rn, wh, ws, wn⟩ ss sn (.rsl 24 0 size.toNat (some size.toNat) 0) (.sl (numsA .u8 (sized x.bytes size.toNat)) size.toNat true) (cloneN x) rfl
      have hw2 : w = (ns.map cloneN).set n.toNat { y with data := .sl (numsA .u8 y.bytes) size.toNat true } := by
        rw [hw]
        unfold setN
        have hb : y.bytes = sized x.bytes size.toNat := by rw [hy, deeds_bytes, if_pos rfl]; rfl
        rw [show numsA .u8 y.bytes = numsA .u8 (sized x.bytes size.toNat) from congrArg _ hb, hy]
        exact congrArg (fun z => (ns.map cloneN).set n.toNat z) hdd.1.symm
      have hyd : y.data = .rsl 24 0 size.toNat (some size.toNat) 0 := by rw [hy]; exact hdd.2
      have hyl : y.list.clean = true := by rw [hy, deeds_list]; exact (hcN _ (List.mem_of_getElem? hxm)).2
      have hone := fun (bs : List AB) (hb : bs[24]? = some (.cells (numsA .u8 y.bytes) ⟨true, 1, false, true⟩)) => sealVL_one (d := sealL 3) hb hzs (ns.map cloneN) n.toNat y hcN (by rw [List.length_map]; omega) hyd hyl
      rw [← hL, ← hw2] at hone
      have hwl : (nodesA w).length = (nodesA L).length := by rw [nodesA_len, nodesA_len, hL, hw2, List.length_set, List.length_set]
      have hcl2 : cleanL (nodesA w) = true := by
        refine nodesA_clean fun z hz => ?_
        rw [hw2] at hz
        rcases List.mem_or_eq_of_mem_set hz with h | rfl
        · exact hcN z h
        · exact ⟨rfl, hyl⟩
      conv => whnf
      (refine     hE _ _ [.agg [.rsl 21 0 ns.length (some ns.length) 0, .int .u32 gen], .int .u32 0] _ _ (.inr rfl) (by kernel_rfl)       (leaveA_of         (seal_tup2           (seal_deep rfl rfl rfl rfl (hone _ rfl) rfl hcl2 hwl rfl rfl rfl rfl hLl (Nat.le_of_ble_eq_true rfl)))         rfl rfl)       ?_)
      conv => whnf
      (simp only [tightA, decide_true])
  · refine call_cleanE (fn := Try.f7) rfl Try.func7 rfl rfl rfl rfl rfl (Nat.le_of_ble_eq_true rfl) ?_
    intro End hE
    conv => whnf
    with_reducible refine ⟨_, _, c1 _ _, ?_⟩
    conv => whnf
    with_reducible refine ⟨_, _, c2 _ _, ?_⟩
    conv => whnf
    (refine ⟨rfl, ?_⟩)
    conv => whnf
    (refine ⟨by kernel_rfl, ?_⟩)
    conv => whnf
    (with_reducible refine ⟨(5 : Nat), ?_, ?_⟩; · exact Nat.le_of_ble_eq_true rfl)
    conv => whnf
    with_reducible refine ⟨_, _, c3 _ _, ?_⟩
    conv => whnf
    with_reducible refine ⟨_, _, c4 _ _, ?_⟩
    conv => whnf
    with_reducible refine ⟨_, _, c5 _ _, ?_⟩
    conv => whnf
    with_reducible refine ⟨_, _, c6 _ _, ?_⟩
    conv => whnf
    (refine clone_K (m + 4) _ _ ns t gen hok hlen _ _ _ _ _ _ _ _ _ _ _ _ _ _ _ _ _ _ _ rfl ?_)
    conv => whnf
    (refine runK_ret (ev_indexRsl (sz := 25) rfl rfl rfl rfl hn0 hn1) ?_)
    conv => whnf
    refine deeds_K (.cells [.rsl 21 0 ns.length (some ns.length) 0, .int .u32 gen] ⟨false, 0, false, true⟩) (.cells [.int .u32 u, .int .u32 gr, .sl (numsA .u32 l) l.length tt] ⟨false, 0, false, true⟩) (.cells [.sl0, .int .u32 0] ⟨false, 0, false, true⟩) (.cells [.int .u32 x.kind, .int .u32 x.mode, .int .u32 (IntKind.wrap .u32 x.links), .int .u32 x.user, .int .u32 x.group, .int .u64 (IntKind.wrap .u64 (sizeS x)), .int .u64 (IntKind.wrap .u64 (sizeS x)), .int .u64 (IntKind.wrap .u64 n), .int .u32 x.rs, .int .u32 x.rn, .int .u32 x.ws, .int .u32 x.wn, .int .u32 x.ts, .int .u32 x.tn] ⟨false, 0, false, true⟩) .void .void .void .void .void .void .void .void .void .void .void (.cells [.sl (nodesA ns) ns.length t, .int .u32 gen, .int .i64 n, .int .u32 u, .int .u32 gr, .sl (numsA .u32 l) l.length tt, .bool hm, .int .u32 mode, .bool hu, .int .u32 user, .bool hg, .int .u32 group, .bool hs, .int .u64 size, .int .u32 rh, .int .u32 rs, .int .u32 rn, .int .u32 wh, .int .u32 ws, .int .u32 wn, .int .u32 ss, .int .u32 sn, .bool ow] ⟨false, 0, false, true⟩) .void (.cells [.rsl 21 0 ns.length (some ns.length) 0, .int .u32 gen] ⟨false, 0, false, true⟩) (.cells [.rsl 21 0 ns.length (some ns.length) 0, .int .u32 gen] ⟨false, 0, false, true⟩) ⟨hm, mode, hu, user, hg, group, hs, size, rh, rs, rn, wh, ws, wn⟩ ss sn bo n (m + 3) _ _ _ (ns.map cloneN) (cloneN x) (by rw [List.length_map]; exact hlen) hn0 (by rw [List.length_map]; exact hn1) hxm (bytesC_ok hxo.1) hsz hsm (by kernel_rfl) ?_
    intro L y hy hLy hL
    have hLl : (nodesA L).length = ns.length * 25 := by rw [nodesA_len, hL, List.length_set, List.length_map]
    cases hs with
    | false =>
      have hw2 : w = L := by
        rw [hw, hL, hy]
        unfold setN
        rw [deeds_d _ ss sn _ (.rsl 24 0 (Int.toNat size) (some (Int.toNat size)) 0) (cloneN x) rfl]
      have hcl2 : cleanL (nodesA L) = true := by
        refine nodesA_clean fun z hz => ?_
        rw [hL] at hz
        rcases List.mem_or_eq_of_mem_set hz with h | rfl
        · exact hcN z h
        · rw [hy, deeds_data, deeds_list, if_neg (fun h => Bool.noConfusion h)]
          exact hcN _ (List.mem_of_getElem? hxm)
      rw [hw2] at hE
      conv => whnf
      (refine     hE _ _ [.agg [.rsl 21 0 ns.length (some ns.length) 0, .int .u32 gen], .int .u32 0] _ _ (.inr rfl) (by kernel_rfl)       (leaveA_of         (seal_tup2           (seal_deep rfl rfl rfl rfl (sealVL_clean _ _ _ hcl2) rfl hcl2 rfl rfl rfl rfl rfl hLl             (Nat.le_of_ble_eq_true rfl)))         rfl rfl)       ?_)
      conv => whnf
      (simp only [tightA, decide_true])
    | true =>
      have hzs : (numsA .u8 y.bytes).length = size.toNat := by
        rw [hy, deeds_bytes, if_pos rfl]
        simp [numsA, sized_len]
      have hdd := deeds_with ⟨hm, mode, hu, user, hg, group, true, size, rh, rs, rn, wh, ws, wn⟩ ss sn (.rsl 24 0 size.toNat (some size.toNat) 0) (.sl (numsA .u8 (sized x.bytes size.toNat)) size.toNat true) (cloneN x) rfl
      have hw2 : w = (ns.map cloneN).set n.toNat { y with data := .sl (numsA .u8 y.bytes) size.toNat true } := by
        rw [hw]
        unfold setN
        have hb : y.bytes = sized x.bytes size.toNat := by rw [hy, deeds_bytes, if_pos rfl]; rfl
        rw [show numsA .u8 y.bytes = numsA .u8 (sized x.bytes size.toNat) from congrArg _ hb, hy]
        exact congrArg (fun z => (ns.map cloneN).set n.toNat z) hdd.1.symm
      have hyd : y.data = .rsl 24 0 size.toNat (some size.toNat) 0 := by rw [hy]; exact hdd.2
      have hyl : y.list.clean = true := by rw [hy, deeds_list]; exact (hcN _ (List.mem_of_getElem? hxm)).2
      have hone := fun (bs : List AB) (hb : bs[24]? = some (.cells (numsA .u8 y.bytes) ⟨true, 1, false, true⟩)) => sealVL_one (d := sealL 3) hb hzs (ns.map cloneN) n.toNat y hcN (by rw [List.length_map]; omega) hyd hyl
      rw [← hL, ← hw2] at hone
      have hwl : (nodesA w).length = (nodesA L).length := by rw [nodesA_len, nodesA_len, hL, hw2, List.length_set, List.length_set]
      have hcl2 : cleanL (nodesA w) = true := by
        refine nodesA_clean fun z hz => ?_
        rw [hw2] at hz
        rcases List.mem_or_eq_of_mem_set hz with h | rfl
        · exact hcN z h
        · exact ⟨rfl, hyl⟩
      conv => whnf
      (refine     hE _ _ [.agg [.rsl 21 0 ns.length (some ns.length) 0, .int .u32 gen], .int .u32 0] _ _ (.inr rfl) (by kernel_rfl)       (leaveA_of         (seal_tup2           (seal_deep rfl rfl rfl rfl (hone _ rfl) rfl hcl2 hwl rfl rfl rfl rfl hLl (Nat.le_of_ble_eq_true rfl)))         rfl rfl)       ?_)
      conv => whnf
      (simp only [tightA, decide_true])
end Go.Proofs.Ytlglhnadalbddaa.Ab
/- Over the engine: a tree that may be stays one, whatever is set of a node. -/
namespace Go.Proofs.Ytlglhnadalbddaa.Ab
open Go Go.RowKit

/-- What each node of a tree that may be has. -/
theorem node_facts {ns : List NodeS} {tg : Int} {x : NodeS} (h : checkS ns tg = true) (hx : x ∈ ns) (hk : (x.kind != 0) = true) : x.mode ≤ 4095 ∧ x.rn < 1000000000 ∧ x.wn < 1000000000 ∧ x.tn < 1000000000 := by
  obtain ⟨_, _, c, h1, _⟩ := checkS_has h
  have key : (decide (x.mode > 4095) || (!decide (x.rn < 1000000000) || (!decide (x.wn < 1000000000) || !decide (x.tn < 1000000000)))) = false := by
    cases hq : (decide (x.mode > 4095) || (!decide (x.rn < 1000000000) || (!decide (x.wn < 1000000000) || !decide (x.tn < 1000000000)))) with
    | false => rfl
    | true =>
      have := pass1_bad (ns := ns) (tg := tg) ns 0 [] (cnt0 ns.length) ⟨x, hx, hk, fun g => by
        unfold nodeBad
        simp only [Bool.or_eq_true] at hq ⊢
        rcases hq with hq | hq | hq | hq
        · exact .inr (.inr (.inl hq))
        · exact .inr (.inr (.inr (.inl hq)))
        · exact .inr (.inr (.inr (.inr (.inl hq))))
        · exact .inr (.inr (.inr (.inr (.inr (.inl hq)))))⟩
      rw [this] at h1
      cases h1
  simp only [Bool.or_eq_false_iff, Bool.not_eq_false', decide_eq_false_iff_not, decide_eq_true_eq] at key
  obtain ⟨k1, k2, k3, k4⟩ := key
  exact ⟨by omega, k2, k3, k4⟩
theorem fileO_like {x y : NodeS} (h1 : y.bytes = x.bytes) (h2 : y.verf = x.verf) : fileO y = fileO x := by
  unfold fileO zeroVerf
  rw [h1, h2]
theorem listO_like {x y : NodeS} (h1 : y.ents = x.ents) (h2 : y.parent = x.parent) (h3 : y.next = x.next) : listO y = listO x := by
  unfold listO
  rw [h1, h2, h3]
/-- What is set keeps a node what it is. -/
theorem only_deeds {s : SetS} {ss sn : Int} {d : AV} {x : NodeS} {w : Bool} (ho : onlyS x = true) (hk : (x.kind != 0) = true) (hz : sizeB x s w = 0) (h0 : 0 ≤ s.size) : onlyS (deeds s ss sn d (cloneN x)) = true := by
  have hl : listO (deeds s ss sn d (cloneN x)) = listO x := listO_like (by rw [deeds_ents]; rfl) (by rw [deeds_parent]; rfl) (by rw [deeds_next]; rfl)
  have e1 : (deeds s ss sn d (cloneN x)).kind = x.kind := by rw [deeds_kind]; rfl
  have e2 : (deeds s ss sn d (cloneN x)).target = x.target := by rw [deeds_target]; rfl
  have hk0 : (x.kind == 0) = false := by simpa [bne] using hk
  unfold onlyS at ho ⊢
  rw [hl, e1, e2, hk0]
  rw [hk0] at ho
  rw [if_neg (fun h => Bool.noConfusion h)] at ho ⊢
  cases hs : s.hs with
  | false =>
    have hb : (deeds s ss sn d (cloneN x)).bytes = x.bytes := by
      rw [deeds_bytes, hs]
      rfl
    rw [fileO_like hb (by rw [deeds_verf]; rfl), hb]
    exact ho
  | true =>
    unfold sizeB at hz
    rw [hs] at hz
    cases h2 : (x.kind == 2) with
    | true => rw [h2] at hz; simp at hz
    | false =>
      cases h5 : (x.kind == 5) with
      | true => rw [h2, h5] at hz; simp at hz
      | false =>
        rw [h5, h2] at ho
        cases h1 : (x.kind == 1) with
        | false => rw [h1] at ho; simp at ho
        | true =>
          rw [h1, if_pos rfl] at ho
          rw [if_pos rfl]
          simp only [Bool.and_eq_true] at ho ⊢
          refine ⟨ho.1, ho.2.1, ?_⟩
          have hsm : s.size ≤ 65536 := by
            cases h6 : decide (s.size > 65536) with
            | true => rw [h2, h5, h6] at hz; simp at hz
            | false => have := of_decide_eq_false h6; omega
          rw [deeds_bytes, hs, if_pos rfl, sized_len]
          exact decide_eq_true (by omega)
theorem there_kind {ns : List NodeS} {n : Int} {x : NodeS} (hn : thereS ns n = true) (hx : ns[n.toNat]? = some x) : (x.kind != 0) = true := by
  unfold thereS kindS at hn
  rw [hx] at hn
  simp only [Bool.and_eq_true] at hn
  exact hn.2.2
/-- A tree that may be stays one. -/
theorem setN_check {ns : List NodeS} {tg n : Int} {s : SetS} {ss sn : Int} {x : NodeS} {w : Bool} (h : checkS ns tg = true) (hn : thereS ns n = true) (hx : ns[n.toNat]? = some x) (e1 : formS s sn = 0) (e3 : sizeB x s w = 0) (h0 : 0 ≤ s.size) : checkS (setN ns n s ss sn x) tg = true := by
  have hm := List.mem_of_getElem? hx
  have hk := there_kind hn hx
  obtain ⟨k1, k2, k3, k4⟩ := node_facts h hm hk
  have ho : onlyS x = true := by
    obtain ⟨_, ha, _⟩ := checkS_has h
    cases ho : onlyS x with
    | true => rfl
    | false => rw [anyBad_of hm ho] at ha; cases ha
  unfold setN
  exact checkS_turn (x := cloneN x) (by rw [checkS_clone]; exact h) (by rw [List.getElem?_map, hx]; rfl) (deeds_turned e1 k1 k2 k3 k4) (only_deeds ho hk e3 h0)
/-- All other nodes stay. -/
theorem setN_other {ns : List NodeS} {n : Int} {s : SetS} {ss sn : Int} {x y : NodeS} {i : Nat} (hi : i ≠ n.toNat) (hy : ns[i]? = some y) : (setN ns n s ss sn x)[i]? = some (cloneN y) := by
  unfold setN
  rw [List.getElem?_set_ne (fun h => hi h.symm), List.getElem?_map, hy]
  rfl
end Go.Proofs.Ytlglhnadalbddaa.Ab
/- Over the engine: nodes.Check, walked. -/
namespace Go.Proofs.Ytlglhnadalbddaa.Ab
open Go Go.RowKit
set_option maxRecDepth 100000
theorem living_c (m : Nat) (from_ : FuncId) (h : H) (ns : List NodeS) (t : Bool) (tg : Int) : evCall TE (m + 1) from_ (.fn 17 [] []) [.agg [.sl (nodesA ns) ns.length t, .int .u32 tg]] h = some (.ret (.fn 41 [] [.vref [.sl (nodesA ns) ns.length t, .int .u32 tg] 0]), h) := by
  refine call_clean (fn := Try.f17) rfl Try.func17 rfl rfl rfl rfl rfl (Nat.le_of_ble_eq_true rfl) ?_
  conv => whnf
  rfl
set_option maxHeartbeats 80000000 in
theorem check_c (m : Nat) (from_ : FuncId) (h : H) (ns : List NodeS) (t : Bool) (tg : Int) (hok : ∀ x ∈ ns, x.ok ∧ x.few) (hl : ns.length ≤ 140737488351232) : evCall TE (m + 12) from_ (.fn 5 [] []) [.agg [.sl (nodesA ns) ns.length t, .int .u32 tg]] h = some (.ret (.bool (checkS ns tg)), h) := by
  have c1 : ∀ (f : FuncId) (h : H), (evAll TE (m + 11)).1 f (.fn 12 [] []) [.agg [.sl (nodesA ns) ns.length t, .int .u32 tg], .int .i64 1, .int .u32 2] h = some (.ret (.bool (dirS ns 1)), h) := fun f h => is_c (m + 9) f h ns t tg 1 2
  have hwn : 2 ≤ ns.length → IntKind.wrap .i64 ((ns.length : Int) - 1) = ns.length - 1 := fun h => wrap64 (by omega) (by omega)
  have c2 : 2 ≤ ns.length → ∀ (f : FuncId) (h : H), (evAll TE (m + 11)).1 f (.fn 13 [] []) [.agg [.sl (nodesA ns) ns.length t, .int .u32 tg], .int .i64 (IntKind.wrap .i64 ((ns.length : Int) - 1))] h = some (.ret (.bool (thereS ns (ns.length - 1))), h) := fun h2 f h => by
    rw [hwn h2]
    exact there_c (m + 10) f h _ ns (.inr ⟨t, rfl⟩) tg _
  have c3 : ∀ (f : FuncId) (h : H), (evAll TE (m + 11)).1 f (.fn 14 [] []) [.sl (nodesA ns) ns.length t, .fn 15 [] []] h = some (.ret (.bool (anyBad ns)), h) := fun f h => contains_bad (m + 3) f h ns t (fun x hx => ⟨(hok x hx).1, (hok x hx).2.target⟩) hl
  obtain ⟨r, hr⟩ : ∃ r, r = checkS ns tg := ⟨_, rfl⟩
  rw [← hr]
  unfold checkS preBad at hr
  cases p1 : decide ((ns.length : Int) < 2) with
  | true =>
    rw [p1] at hr
    refine call_clean (fn := Try.f5) rfl Try.func5 rfl rfl rfl rfl rfl (Nat.le_of_ble_eq_true rfl) ?_
    conv => whnf
    ((with_reducible cases z0 : decide (↑ns.length < Int.ofNat 2)) <;>     try exact Bool.noConfusion (Eq.trans (Eq.symm z0) p1))
    conv => whnf
    (rw [hr]; rfl)
  | false =>
    have h2 : 2 ≤ ns.length := by have := of_decide_eq_false p1; omega
    have c2 := c2 h2
    clear hwn
    obtain ⟨x0, hx0⟩ : ∃ x, ns[(0 : Int).toNat]? = some x := ⟨_, List.getElem?_eq_getElem (by show 0 < _; omega)⟩
    obtain ⟨x1, hx1⟩ : ∃ x, ns[(1 : Int).toNat]? = some x := ⟨_, List.getElem?_eq_getElem (by show 1 < _; omega)⟩
    have hk0 : kindS ns 0 = x0.kind := by unfold kindS; rw [hx0]
    have hp1 : parentS ns 1 = x1.parent := by unfold parentS; rw [hx1]
    rw [hk0, hp1, p1, Bool.false_or] at hr
    have hb0 : (0 : Int) < ns.length := by omega
    have hb1 : (1 : Int) < ns.length := by omega
    generalize dirS ns 1 = q1 at c1 hr
    generalize thereS ns (ns.length - 1) = q2 at c2 hr
    obtain ⟨q3, hq3⟩ : ∃ q, anyBad ns = q := ⟨_, rfl⟩
    rw [hq3] at c3 hr
    cases b1 : decide ((ns.length : Int) > 1025) with
    | true =>
      rw [b1] at hr
      refine call_clean (fn := Try.f5) rfl Try.func5 rfl rfl rfl rfl rfl (Nat.le_of_ble_eq_true rfl) ?_
      conv => whnf
      ((with_reducible cases z0 : decide (↑ns.length < Int.ofNat 2)) <;>     try exact Bool.noConfusion (Eq.trans (Eq.symm z0) p1))
      conv => whnf
      ((with_reducible cases z1 : decide (↑ns.length > Int.ofNat 1025)) <;>     try exact Bool.noConfusion (Eq.trans (Eq.symm z1) b1))
      conv => whnf
      (rw [hr]; rfl)
    | false =>
      rw [b1] at hr
      cases b2 : (x0.kind != 0) with
      | true =>
        rw [b2] at hr
        refine call_clean (fn := Try.f5) rfl Try.func5 rfl rfl rfl rfl rfl (Nat.le_of_ble_eq_true rfl) ?_
        conv => whnf
        ((with_reducible cases z0 : decide (↑ns.length < Int.ofNat 2)) <;>     try exact Bool.noConfusion (Eq.trans (Eq.symm z0) p1))
        conv => whnf
        ((with_reducible cases z1 : decide (↑ns.length > Int.ofNat 1025)) <;>     try exact Bool.noConfusion (Eq.trans (Eq.symm z1) b1))
        conv => whnf
        (refine runK_ret (ev_indexSl (sz := 25) rfl rfl rfl rfl (Int.le_refl 0) hb0) ?_)
        conv => whnf
        (refine runK_ret (ev_loadV (z := 1) rfl rfl rfl ((nodesA_cell hx0 0 (by decide)).trans rfl)) ?_)
        conv => whnf
        ((with_reducible cases z2 : x0.kind != Int.ofNat 0) <;> try exact Bool.noConfusion (Eq.trans (Eq.symm z2) b2))
        conv => whnf
        (rw [hr]; rfl)
      | false =>
        rw [b2] at hr
        cases q1 with
        | false =>
          refine call_clean (fn := Try.f5) rfl Try.func5 rfl rfl rfl rfl rfl (Nat.le_of_ble_eq_true rfl) ?_
          conv => whnf
          ((with_reducible cases z0 : decide (↑ns.length < Int.ofNat 2)) <;>     try exact Bool.noConfusion (Eq.trans (Eq.symm z0) p1))
          conv => whnf
          ((with_reducible cases z1 : decide (↑ns.length > Int.ofNat 1025)) <;>     try exact Bool.noConfusion (Eq.trans (Eq.symm z1) b1))
          conv => whnf
          (refine runK_ret (ev_indexSl (sz := 25) rfl rfl rfl rfl (Int.le_refl 0) hb0) ?_)
          conv => whnf
          (refine runK_ret (ev_loadV (z := 1) rfl rfl rfl ((nodesA_cell hx0 0 (by decide)).trans rfl)) ?_)
          conv => whnf
          ((with_reducible cases z2 : x0.kind != Int.ofNat 0) <;> try exact Bool.noConfusion (Eq.trans (Eq.symm z2) b2))
          conv => whnf
          with_reducible refine ⟨_, _, c1 _ _, ?_⟩
          conv => whnf
          (rw [hr]; rfl)
        | true =>
          cases b4 : (x1.parent != 1) with
          | true =>
            rw [b4] at hr
            refine call_clean (fn := Try.f5) rfl Try.func5 rfl rfl rfl rfl rfl (Nat.le_of_ble_eq_true rfl) ?_
            conv => whnf
            ((with_reducible cases z0 : decide (↑ns.length < Int.ofNat 2)) <;>     try exact Bool.noConfusion (Eq.trans (Eq.symm z0) p1))
            conv => whnf
            ((with_reducible cases z1 : decide (↑ns.length > Int.ofNat 1025)) <;>     try exact Bool.noConfusion (Eq.trans (Eq.symm z1) b1))
            conv => whnf
            (refine runK_ret (ev_indexSl (sz := 25) rfl rfl rfl rfl (Int.le_refl 0) hb0) ?_)
            conv => whnf
            (refine runK_ret (ev_loadV (z := 1) rfl rfl rfl ((nodesA_cell hx0 0 (by decide)).trans rfl)) ?_)
            conv => whnf
            ((with_reducible cases z2 : x0.kind != Int.ofNat 0) <;> try exact Bool.noConfusion (Eq.trans (Eq.symm z2) b2))
            conv => whnf
            with_reducible refine ⟨_, _, c1 _ _, ?_⟩
            conv => whnf
            (refine runK_ret (ev_indexSl (sz := 25) rfl rfl rfl rfl (by decide) hb1) ?_)
            conv => whnf
            (refine runK_ret (ev_loadV (z := 1) rfl rfl rfl ((nodesA_cell hx1 23 (by decide)).trans rfl)) ?_)
            conv => whnf
            ((with_reducible cases z3 : x1.parent != Int.ofNat 1) <;> try exact Bool.noConfusion (Eq.trans (Eq.symm z3) b4))
            conv => whnf
            (rw [hr]; rfl)
          | false =>
            rw [b4] at hr
            cases q2 with
            | false =>
              refine call_clean (fn := Try.f5) rfl Try.func5 rfl rfl rfl rfl rfl (Nat.le_of_ble_eq_true rfl) ?_
              conv => whnf
              ((with_reducible cases z0 : decide (↑ns.length < Int.ofNat 2)) <;>     try exact Bool.noConfusion (Eq.trans (Eq.symm z0) p1))
              conv => whnf
              ((with_reducible cases z1 : decide (↑ns.length > Int.ofNat 1025)) <;>     try exact Bool.noConfusion (Eq.trans (Eq.symm z1) b1))
              conv => whnf
              (refine runK_ret (ev_indexSl (sz := 25) rfl rfl rfl rfl (Int.le_refl 0) hb0) ?_)
              conv => whnf
              (refine runK_ret (ev_loadV (z := 1) rfl rfl rfl ((nodesA_cell hx0 0 (by decide)).trans rfl)) ?_)
              conv => whnf
              ((with_reducible cases z2 : x0.kind != Int.ofNat 0) <;> try exact Bool.noConfusion (Eq.trans (Eq.symm z2) b2))
              conv => whnf
              with_reducible refine ⟨_, _, c1 _ _, ?_⟩
              conv => whnf
              (refine runK_ret (ev_indexSl (sz := 25) rfl rfl rfl rfl (by decide) hb1) ?_)
              conv => whnf
              (refine runK_ret (ev_loadV (z := 1) rfl rfl rfl ((nodesA_cell hx1 23 (by decide)).trans rfl)) ?_)
              conv => whnf
              ((with_reducible cases z3 : x1.parent != Int.ofNat 1) <;> try exact Bool.noConfusion (Eq.trans (Eq.symm z3) b4))
              conv => whnf
              with_reducible refine ⟨_, _, c2 _ _, ?_⟩
              conv => whnf
              (rw [hr]; rfl)
            | true =>
              cases q3 with
              | true =>
                refine call_clean (fn := Try.f5) rfl Try.func5 rfl rfl rfl rfl rfl (Nat.le_of_ble_eq_true rfl) ?_
                conv => whnf
                ((with_reducible cases z0 : decide (↑ns.length < Int.ofNat 2)) <;>     try exact Bool.noConfusion (Eq.trans (Eq.symm z0) p1))
                conv => whnf
                ((with_reducible cases z1 : decide (↑ns.length > Int.ofNat 1025)) <;>     try exact Bool.noConfusion (Eq.trans (Eq.symm z1) b1))
                conv => whnf
                (refine runK_ret (ev_indexSl (sz := 25) rfl rfl rfl rfl (Int.le_refl 0) hb0) ?_)
                conv => whnf
                (refine runK_ret (ev_loadV (z := 1) rfl rfl rfl ((nodesA_cell hx0 0 (by decide)).trans rfl)) ?_)
                conv => whnf
                ((with_reducible cases z2 : x0.kind != Int.ofNat 0) <;> try exact Bool.noConfusion (Eq.trans (Eq.symm z2) b2))
                conv => whnf
                with_reducible refine ⟨_, _, c1 _ _, ?_⟩
                conv => whnf
                (refine runK_ret (ev_indexSl (sz := 25) rfl rfl rfl rfl (by decide) hb1) ?_)
                conv => whnf
                (refine runK_ret (ev_loadV (z := 1) rfl rfl rfl ((nodesA_cell hx1 23 (by decide)).trans rfl)) ?_)
                conv => whnf
                ((with_reducible cases z3 : x1.parent != Int.ofNat 1) <;> try exact Bool.noConfusion (Eq.trans (Eq.symm z3) b4))
                conv => whnf
                with_reducible refine ⟨_, _, c2 _ _, ?_⟩
                conv => whnf
                with_reducible refine ⟨_, _, c3 _ _, ?_⟩
                conv => whnf
                (rw [hr]; rfl)
              | false =>
                have hle : ns.length ≤ 1025 := by have := of_decide_eq_false b1; omega
                have c4 : ∀ (f : FuncId) (h : H), (evAll TE (m + 11)).1 f (.fn 17 [] []) [.agg [.sl (nodesA ns) ns.length t, .int .u32 tg]] h = some (.ret (.fn 41 [] [.vref [.sl (nodesA ns) ns.length t, .int .u32 tg] 0]), h) := fun f h => living_c (m + 10) f h ns t tg
                refine call_clean (fn := Try.f5) rfl Try.func5 rfl rfl rfl rfl rfl (Nat.le_of_ble_eq_true rfl) ?_
                conv => whnf
                ((with_reducible cases z0 : decide (↑ns.length < Int.ofNat 2)) <;>     try exact Bool.noConfusion (Eq.trans (Eq.symm z0) p1))
                conv => whnf
                ((with_reducible cases z1 : decide (↑ns.length > Int.ofNat 1025)) <;>     try exact Bool.noConfusion (Eq.trans (Eq.symm z1) b1))
                conv => whnf
                (refine runK_ret (ev_indexSl (sz := 25) rfl rfl rfl rfl (Int.le_refl 0) hb0) ?_)
                conv => whnf
                (refine runK_ret (ev_loadV (z := 1) rfl rfl rfl ((nodesA_cell hx0 0 (by decide)).trans rfl)) ?_)
                conv => whnf
                ((with_reducible cases z2 : x0.kind != Int.ofNat 0) <;> try exact Bool.noConfusion (Eq.trans (Eq.symm z2) b2))
                conv => whnf
                with_reducible refine ⟨_, _, c1 _ _, ?_⟩
                conv => whnf
                (refine runK_ret (ev_indexSl (sz := 25) rfl rfl rfl rfl (by decide) hb1) ?_)
                conv => whnf
                (refine runK_ret (ev_loadV (z := 1) rfl rfl rfl ((nodesA_cell hx1 23 (by decide)).trans rfl)) ?_)
                conv => whnf
                ((with_reducible cases z3 : x1.parent != Int.ofNat 1) <;> try exact Bool.noConfusion (Eq.trans (Eq.symm z3) b4))
                conv => whnf
                with_reducible refine ⟨_, _, c2 _ _, ?_⟩
                conv => whnf
                with_reducible refine ⟨_, _, c3 _ _, ?_⟩
                conv => whnf
                (refine     runK_ret       (ev_makeN (sz := 1) (by_ := 8) rfl rfl rfl rfl rfl rfl (by omega) (by omega) rfl (by decide) rfl (rep_ints _)) ?_)
                conv => whnf
                (refine     runK_ret       (ev_makeN (sz := 1) (by_ := 8) rfl rfl rfl rfl rfl rfl (by omega) (by omega) rfl (by decide) rfl (rep_ints _)) ?_)
                conv => whnf
                (refine     runK_ret       (ev_makeN (sz := 1) (by_ := 8) rfl rfl rfl rfl rfl rfl (by omega) (by omega) rfl (by decide) rfl (rep_ints _)) ?_)
                conv => whnf
                (refine ⟨by kernel_rfl, ?_⟩)
                conv => whnf
                with_reducible refine ⟨_, _, c4 _ _, ?_⟩
                conv => whnf
                (refine range_K ?_)
                conv => whnf
                (refine call_inline (fn := Try.f41) rfl Try.func41 rfl rfl ?_)
                conv => whnf
                refine ⟨ns.length + 1, by show ns.length + 1 ≤ 4611686018427387904; omega, ?_⟩
                refine rounds_at (fun s (a : Int × List Int × Cnt) => ⟨RG.of 24 [(8, .int .i64 a.1), (7, .int .i64 ns.length), (6, .sl (nodesA ns) ns.length t), (0, .yc 17)], ⟨(((s.h.bs.set 4 (.cells (numsA .i64 a.2.2.named) ⟨true, 1, false, true⟩)).set 6 (.cells (numsA .i64 a.2.2.subs) ⟨true, 1, false, true⟩)).set 8 (.cells (numsA .i64 a.2.2.home) ⟨true, 1, false, true⟩)).set 2 (.map (gensA a.2.1)), s.h.esc⟩⟩) (fun a => 0 ≤ a.1 ∧ a.1 ≤ ns.length ∧ a.2.2.len ns.length ∧ r = (match pass1 ns tg (ns.drop a.1.toNat) a.1 a.2.1 a.2.2 with
                  | some c => pass2 ns c ns 0
                  | none => false)) (fun a => (ns.length - a.1).toNat) _ (0, [], cnt0 ns.length) ⟨by simp only; omega, by simp only; omega, ⟨List.length_replicate .., List.length_replicate .., List.length_replicate ..⟩, by rw [hr]; rfl⟩ (by simp only; omega) (by kernel_rfl) ?_
                intro a m' hI ih
                obtain ⟨i, g, c⟩ := a
                dsimp only at hI ih ⊢
                obtain ⟨hI0, hI1, hI3, hI2⟩ := hI
                clear hr
                conv => whnf
                cases h1 : decide (i < (ns.length : Int)) with
                | false =>
                  have h1 := of_decide_eq_false h1
                  rw [List.drop_eq_nil_of_le (by omega), pass1] at hI2
                  dsimp only at hI2
                  clear ih
                  conv => whnf
                  with_reducible refine ⟨_, _, c4 _ _, ?_⟩
                  conv => whnf
                  (refine range_K ?_)
                  conv => whnf
                  (refine call_inline (fn := Try.f41) rfl Try.func41 rfl rfl ?_)
                  conv => whnf
                  refine ⟨ns.length + 1, by show ns.length + 1 ≤ 4611686018427387904; omega, ?_⟩
                  refine rounds_at (fun s (a : Int) => ⟨RG.of 24 [(8, .int .i64 a), (7, .int .i64 ns.length), (6, .sl (nodesA ns) ns.length t), (0, .yc 17)], ⟨s.h.bs, s.h.esc⟩⟩) (fun a => 0 ≤ a ∧ a ≤ ns.length ∧ r = pass2 ns c (ns.drop a.toNat) a) (fun a => (ns.length - a).toNat) _ 0 ⟨by omega, by omega, hI2⟩ (by omega) (by kernel_rfl) ?_
                  clear hI2 h1 hI0 hI1
                  intro i2 m2 hK ih3
                  obtain ⟨hK0, hK1, hK2⟩ := hK
                  conv => whnf
                  cases h4 : decide (i2 < (ns.length : Int)) with
                  | false =>
                    have h4 := of_decide_eq_false h4
                    rw [List.drop_eq_nil_of_le (by omega), pass2] at hK2
                    clear ih3
                    conv => whnf
                    (rw [hK2])
                  | true =>
                    have h4 := of_decide_eq_true h4
                    have hin : i2.toNat < ns.length := by omega
                    obtain ⟨x, hx⟩ : ∃ x, ns[i2.toNat]? = some x := ⟨_, List.getElem?_eq_getElem hin⟩
                    have hcx : i2.toNat * 25 + 25 ≤ (nodesA ns).length := by rw [nodesA_len]; omega
                    have hdx := nodesA_node hx
                    have hw : IntKind.wrap .i64 (i2 + 1) = i2 + 1 := wrap64 (by omega) (by omega)
                    have hmu : (ns.length - IntKind.wrap .i64 (i2 + 1)).toNat < (ns.length - i2).toNat := by rw [hw]; omega
                    have hwa : 0 ≤ IntKind.wrap .i64 (i2 + 1) ∧ IntKind.wrap .i64 (i2 + 1) ≤ ns.length := by rw [hw]; omega
                    rw [pass2_drop hK0 hx, ← hw] at hK2
                    have cW : ∀ (f : FuncId) (h : H), (evAll TE (m + 9)).1 f (.fn 20 [] []) [.agg [.sl (nodesA ns) ns.length t, .int .u32 tg], .int .i64 i2, .int .i64 1] h = some (.ret (.bool (withinS ns 1 (ns.length + 1) i2)), h) := fun f h => within_c (m + 4) f h ns t tg i2 1 hl
                    have hxo := (hok x (List.mem_of_getElem? hx)).1
                    have honeL : oneL (nodeA x) = true := nodeA_one hxo
                    have htop : topL (nodeA x) = 0 := nodeA_top0 hxo
                    unfold nodeA at honeL htop
                    obtain ⟨n1, n2, n3⟩ := hI3
                    have hN : i2.toNat < c.named.length := by omega
                    have hS : i2.toNat < c.subs.length := by omega
                    have hH : i2.toNat < c.home.length := by omega
                    obtain ⟨bd, hbd⟩ : ∃ b, b = nodeBad2 ns c i2 x := ⟨_, rfl⟩
                    rw [← hbd] at hK2
                    unfold nodeBad2 at0 at hbd
                    generalize withinS ns 1 (ns.length + 1) i2 = wi at cW hbd
                    obtain ⟨kd, ge, mo, us, ng, li, xrs, xrn, xws, xwn, ts, tn, da, by_, vf, ta, ls, es, pa, nx⟩ := x
                    dsimp only at hK2 hbd honeL htop
                    cases qk : (kd != 0) with
                    | false =>
                      rw [qk, if_neg (fun h => Bool.noConfusion h)] at hK2
                      conv => whnf
                      (refine runK_ret (ev_indexSl (sz := 25) rfl rfl rfl rfl hK0 h4) ?_)
                      conv => whnf
                      (refine runK_ret (ev_loadVA (z := 25) rfl rfl rfl hcx hdx) ?_)
                      conv => whnf
                      (refine runK_store (z := 25) rfl rfl rfl rfl honeL rfl rfl rfl (Nat.le_of_ble_eq_true rfl) (.inl rfl) ?_)
                      conv => whnf
                      (refine listK_of (if_pos (Nat.le_trans (Nat.le_of_eq htop) (Nat.zero_le _))) ?_)
                      conv => whnf
                      ((with_reducible cases z0 : kd != Int.ofNat 0) <;> try exact Bool.noConfusion (Eq.trans (Eq.symm z0) qk))
                      conv => whnf
                      (exact ih3 (IntKind.wrap .i64 (i2 + 1)) _ ⟨hwa.1, hwa.2, hK2⟩ hmu (by kernel_rfl))
                    | true =>
                      rw [qk, if_pos rfl] at hK2
                      have hfa : bd = true → r = false := fun hb => by rw [hK2, hb]; rfl
                      have hst : bd = false → 0 ≤ IntKind.wrap .i64 (i2 + 1) ∧ IntKind.wrap .i64 (i2 + 1) ≤ ns.length ∧ r = pass2 ns c (ns.drop (IntKind.wrap .i64 (i2 + 1)).toNat) (IntKind.wrap .i64 (i2 + 1)) := fun hb => by
                        rw [hb, if_neg (fun h => Bool.noConfusion h)] at hK2
                        exact ⟨hwa.1, hwa.2, hK2⟩
                      conv => whnf
                      (refine runK_ret (ev_indexSl (sz := 25) rfl rfl rfl rfl hK0 h4) ?_)
                      conv => whnf
                      (refine runK_ret (ev_loadVA (z := 25) rfl rfl rfl hcx hdx) ?_)
                      conv => whnf
                      (refine runK_store (z := 25) rfl rfl rfl rfl honeL rfl rfl rfl (Nat.le_of_ble_eq_true rfl) (.inl rfl) ?_)
                      conv => whnf
                      (refine listK_of (if_pos (Nat.le_trans (Nat.le_of_eq htop) (Nat.zero_le _))) ?_)
                      conv => whnf
                      ((with_reducible cases z0 : kd != Int.ofNat 0) <;> try exact Bool.noConfusion (Eq.trans (Eq.symm z0) qk))
                      conv => whnf
                      (refine yield_K ?_)
                      conv => whnf
                      (refine runK_store (z := 25) rfl rfl rfl rfl honeL rfl rfl rfl (Nat.le_of_ble_eq_true rfl) (.inl rfl) ?_)
                      conv => whnf
                      (refine listK_of (if_pos (Nat.le_trans (Nat.le_of_eq htop) (Nat.zero_le _))) ?_)
                      conv => whnf
                      (refine runK_ret (ev_indexRsl (sz := 1) rfl rfl rfl rfl hK0 h4) ?_)
                      conv => whnf
                      (refine runK_if rfl (runK_cell rfl (ints_get (l := c.named) (k := i2.toNat) hN) (runK_ret rfl ?_)))
                      conv => whnf
                      with_reducible cases z1 : li != c.named[i2.toNat]?.getD (Int.ofNat 0)
                      · conv => whnf
                        (refine runK_ret (ev_indexRsl (sz := 1) rfl rfl rfl rfl hK0 h4) ?_)
                        conv => whnf
                        (refine runK_if rfl (runK_cell rfl (ints_get (l := c.named) (k := i2.toNat) hN) (runK_ret rfl ?_)))
                        conv => whnf
                        with_reducible cases z2 : decide (c.named[i2.toNat]?.getD (Int.ofNat 0) < Int.ofNat 1)
                        · conv => whnf
                          (refine runK_ret (ev_indexRsl (sz := 1) rfl rfl rfl rfl hK0 h4) ?_)
                          conv => whnf
                          (refine runK_if rfl (runK_cell rfl (ints_get (l := c.named) (k := i2.toNat) hN) (runK_ret rfl ?_)))
                          conv => whnf
                          (refine ⟨by kernel_rfl, ?_⟩)
                          conv => whnf
                          with_reducible cases z3 : kd == Int.ofNat 2
                          · conv => whnf
                            with_reducible cases z4 : decide (c.named[i2.toNat]?.getD (Int.ofNat 0) > Int.ofNat 200)
                            · conv => whnf
                              (exact     ih3 (IntKind.wrap .i64 (i2 + 1)) _ (hst (by clear ih3; rw [hbd]; simp_all <;> (intro hh; exfalso; omega))) hmu       (by kernel_rfl))
                            · conv => whnf
                              (rw [hfa (by clear ih3; rw [hbd]; simp_all)])
                          · conv => whnf
                            (refine runK_ret (ev_indexRsl (sz := 1) rfl rfl rfl rfl hK0 h4) ?_)
                            conv => whnf
                            (refine runK_if rfl (runK_cell rfl (ints_get (l := c.subs) (k := i2.toNat) hS) (runK_ret rfl ?_)))
                            conv => whnf
                            with_reducible cases z5 : li != IntKind.i64.wrap (Int.ofNat 2 + c.subs[i2.toNat]?.getD (Int.ofNat 0))
                            · conv => whnf
                              with_reducible cases z6 : decide (i2 > Int.ofNat 1)
                              · conv => whnf
                                (refine ⟨by kernel_rfl, ?_⟩)
                                conv => whnf
                                (exact     ih3 (IntKind.wrap .i64 (i2 + 1)) _ (hst (by clear ih3; rw [hbd]; simp_all <;> (intro hh; exfalso; omega))) hmu       (by kernel_rfl))
                              · conv => whnf
                                (refine runK_ret (ev_indexRsl (sz := 1) rfl rfl rfl rfl hK0 h4) ?_)
                                conv => whnf
                                (refine runK_if rfl (runK_cell rfl (ints_get (l := c.named) (k := i2.toNat) hN) (runK_ret rfl ?_)))
                                conv => whnf
                                with_reducible cases z7 : c.named[i2.toNat]?.getD (Int.ofNat 0) != Int.ofNat 1
                                · conv => whnf
                                  (refine runK_ret (ev_indexRsl (sz := 1) rfl rfl rfl rfl hK0 h4) ?_)
                                  conv => whnf
                                  (refine runK_if rfl (runK_cell rfl (ints_get (l := c.home) (k := i2.toNat) hH) (runK_ret rfl ?_)))
                                  conv => whnf
                                  with_reducible cases z8 : c.home[i2.toNat]?.getD (Int.ofNat 0) != pa
                                  · conv => whnf
                                    with_reducible refine ⟨_, _, cW _ _, ?_⟩
                                    conv => whnf
                                    (refine ⟨by kernel_rfl, ?_⟩)
                                    conv => whnf
                                    (refine ⟨by kernel_rfl, ?_⟩)
                                    conv => whnf
                                    cases wi
                                    · conv => whnf
                                      (rw [hfa (by clear ih3; rw [hbd]; simp_all)])
                                    · conv => whnf
                                      (exact     ih3 (IntKind.wrap .i64 (i2 + 1)) _ (hst (by clear ih3; rw [hbd]; simp_all <;> (intro hh; exfalso; omega))) hmu       (by kernel_rfl))
                                  · conv => whnf
                                    (refine ⟨by kernel_rfl, ?_⟩)
                                    conv => whnf
                                    (rw [hfa (by clear ih3; rw [hbd]; simp_all)])
                                · conv => whnf
                                  (refine ⟨by kernel_rfl, ?_⟩)
                                  conv => whnf
                                  (rw [hfa (by clear ih3; rw [hbd]; simp_all)])
                            · conv => whnf
                              (refine ⟨by kernel_rfl, ?_⟩)
                              conv => whnf
                              (rw [hfa (by clear ih3; rw [hbd]; simp_all)])
                        · conv => whnf
                          (refine ⟨by kernel_rfl, ?_⟩)
                          conv => whnf
                          with_reducible cases z10 : kd == Int.ofNat 2
                          · conv => whnf
                            (rw [hfa (by clear ih3; rw [hbd]; simp_all)])
                          · conv => whnf
                            (refine runK_ret (ev_indexRsl (sz := 1) rfl rfl rfl rfl hK0 h4) ?_)
                            conv => whnf
                            (refine runK_if rfl (runK_cell rfl (ints_get (l := c.subs) (k := i2.toNat) hS) (runK_ret rfl ?_)))
                            conv => whnf
                            with_reducible cases z11 : li != IntKind.i64.wrap (Int.ofNat 2 + c.subs[i2.toNat]?.getD (Int.ofNat 0))
                            · conv => whnf
                              with_reducible cases z12 : decide (i2 > Int.ofNat 1)
                              · conv => whnf
                                (refine ⟨by kernel_rfl, ?_⟩)
                                conv => whnf
                                (exact     ih3 (IntKind.wrap .i64 (i2 + 1)) _ (hst (by clear ih3; rw [hbd]; simp_all <;> (intro hh; exfalso; omega))) hmu       (by kernel_rfl))
                              · conv => whnf
                                (refine runK_ret (ev_indexRsl (sz := 1) rfl rfl rfl rfl hK0 h4) ?_)
                                conv => whnf
                                (refine runK_if rfl (runK_cell rfl (ints_get (l := c.named) (k := i2.toNat) hN) (runK_ret rfl ?_)))
                                conv => whnf
                                with_reducible cases z13 : c.named[i2.toNat]?.getD (Int.ofNat 0) != Int.ofNat 1
                                · conv => whnf
                                  (refine runK_ret (ev_indexRsl (sz := 1) rfl rfl rfl rfl hK0 h4) ?_)
                                  conv => whnf
                                  (refine runK_if rfl (runK_cell rfl (ints_get (l := c.home) (k := i2.toNat) hH) (runK_ret rfl ?_)))
                                  conv => whnf
                                  with_reducible cases z14 : c.home[i2.toNat]?.getD (Int.ofNat 0) != pa
                                  · conv => whnf
                                    with_reducible refine ⟨_, _, cW _ _, ?_⟩
                                    conv => whnf
                                    (refine ⟨by kernel_rfl, ?_⟩)
                                    conv => whnf
                                    (refine ⟨by kernel_rfl, ?_⟩)
                                    conv => whnf
                                    cases wi
                                    · conv => whnf
                                      (rw [hfa (by clear ih3; rw [hbd]; simp_all)])
                                    · conv => whnf
                                      (exact     ih3 (IntKind.wrap .i64 (i2 + 1)) _ (hst (by clear ih3; rw [hbd]; simp_all <;> (intro hh; exfalso; omega))) hmu       (by kernel_rfl))
                                  · conv => whnf
                                    (refine ⟨by kernel_rfl, ?_⟩)
                                    conv => whnf
                                    (rw [hfa (by clear ih3; rw [hbd]; simp_all)])
                                · conv => whnf
                                  (refine ⟨by kernel_rfl, ?_⟩)
                                  conv => whnf
                                  (rw [hfa (by clear ih3; rw [hbd]; simp_all)])
                            · conv => whnf
                              (refine ⟨by kernel_rfl, ?_⟩)
                              conv => whnf
                              (rw [hfa (by clear ih3; rw [hbd]; simp_all)])
                      · conv => whnf
                        (refine ⟨by kernel_rfl, ?_⟩)
                        conv => whnf
                        with_reducible cases z16 : kd == Int.ofNat 2
                        · conv => whnf
                          (rw [hfa (by clear ih3; rw [hbd]; simp_all)])
                        · conv => whnf
                          (refine runK_ret (ev_indexRsl (sz := 1) rfl rfl rfl rfl hK0 h4) ?_)
                          conv => whnf
                          (refine runK_if rfl (runK_cell rfl (ints_get (l := c.subs) (k := i2.toNat) hS) (runK_ret rfl ?_)))
                          conv => whnf
                          with_reducible cases z17 : li != IntKind.i64.wrap (Int.ofNat 2 + c.subs[i2.toNat]?.getD (Int.ofNat 0))
                          · conv => whnf
                            with_reducible cases z18 : decide (i2 > Int.ofNat 1)
                            · conv => whnf
                              (refine ⟨by kernel_rfl, ?_⟩)
                              conv => whnf
                              (exact     ih3 (IntKind.wrap .i64 (i2 + 1)) _ (hst (by clear ih3; rw [hbd]; simp_all <;> (intro hh; exfalso; omega))) hmu       (by kernel_rfl))
                            · conv => whnf
                              (refine runK_ret (ev_indexRsl (sz := 1) rfl rfl rfl rfl hK0 h4) ?_)
                              conv => whnf
                              (refine runK_if rfl (runK_cell rfl (ints_get (l := c.named) (k := i2.toNat) hN) (runK_ret rfl ?_)))
                              conv => whnf
                              with_reducible cases z19 : c.named[i2.toNat]?.getD (Int.ofNat 0) != Int.ofNat 1
                              · conv => whnf
                                (refine runK_ret (ev_indexRsl (sz := 1) rfl rfl rfl rfl hK0 h4) ?_)
                                conv => whnf
                                (refine runK_if rfl (runK_cell rfl (ints_get (l := c.home) (k := i2.toNat) hH) (runK_ret rfl ?_)))
                                conv => whnf
                                with_reducible cases z20 : c.home[i2.toNat]?.getD (Int.ofNat 0) != pa
                                · conv => whnf
                                  with_reducible refine ⟨_, _, cW _ _, ?_⟩
                                  conv => whnf
                                  (refine ⟨by kernel_rfl, ?_⟩)
                                  conv => whnf
                                  (refine ⟨by kernel_rfl, ?_⟩)
                                  conv => whnf
                                  cases wi
                                  · conv => whnf
                                    (rw [hfa (by clear ih3; rw [hbd]; simp_all)])
                                  · conv => whnf
                                    (exact     ih3 (IntKind.wrap .i64 (i2 + 1)) _ (hst (by clear ih3; rw [hbd]; simp_all <;> (intro hh; exfalso; omega))) hmu       (by kernel_rfl))
                                · conv => whnf
                                  (refine ⟨by kernel_rfl, ?_⟩)
                                  conv => whnf
                                  (rw [hfa (by clear ih3; rw [hbd]; simp_all)])
                              · conv => whnf
                                (refine ⟨by kernel_rfl, ?_⟩)
                                conv => whnf
                                (rw [hfa (by clear ih3; rw [hbd]; simp_all)])
                          · conv => whnf
                            (refine ⟨by kernel_rfl, ?_⟩)
                            conv => whnf
                            (rw [hfa (by clear ih3; rw [hbd]; simp_all)])
                | true =>
                  have h1 := of_decide_eq_true h1
                  have hin : i.toNat < ns.length := by omega
                  obtain ⟨x, hx⟩ : ∃ x, ns[i.toNat]? = some x := ⟨_, List.getElem?_eq_getElem hin⟩
                  have hcx : i.toNat * 25 + 25 ≤ (nodesA ns).length := by rw [nodesA_len]; omega
                  have hdx := nodesA_node hx
                  have hxm := List.mem_of_getElem? hx
                  have hw : IntKind.wrap .i64 (i + 1) = i + 1 := wrap64 (by omega) (by omega)
                  have hmu : (ns.length - IntKind.wrap .i64 (i + 1)).toNat < (ns.length - i).toNat := by rw [hw]; omega
                  have hwa : 0 ≤ IntKind.wrap .i64 (i + 1) ∧ IntKind.wrap .i64 (i + 1) ≤ ns.length := by rw [hw]; omega
                  rw [pass1_drop hI0 hx] at hI2
                  have cE : ∀ (f : FuncId) (h : H), (evAll TE (m + 9)).1 f (.fn 19 [] []) [.agg [.sl (nodesA ns) ns.length t, .int .u32 tg], .agg (nodeA x)] h = some (.ret (.bool (entriesS ns x)), h) := fun f h => entries_c (m + 4) f h ns t tg x (hok x hxm).1 (fun e he => (hok x hxm).2.ents e he) (by have := (hok x hxm).2.entsL; omega)
                  have cT : ∀ (f : FuncId) (h : H) (s n : Int), (evAll TE (m + 9)).1 f (.fn 18 [] []) [.agg [.int .u32 s, .int .u32 n]] h = some (.ret (.bool (decide (n < 1000000000))), h) := fun f h s n => timesC_c (m + 8) f h s n
                  have cI : ∀ (f : FuncId) (h : H) (n : Int), (evAll TE (m + 9)).1 f (.fn 12 [] []) [.agg [.sl (nodesA ns) ns.length t, .int .u32 tg], .int .i64 n, .int .u32 2] h = some (.ret (.bool (dirS ns n)), h) := fun f h n => is_c (m + 7) f h ns t tg n 2
                  have hon : onlyS x = true := by
                    unfold anyBad at hq3
                    have := (List.any_eq_false.1 hq3) x hxm
                    simpa using this
                  have hth : (x.kind == 2) = true → entriesS ns x = true → ∀ e ∈ x.ents, thereS ns e.node = true := fun _ h => entries_there h
                  have hno : (x.kind == 2) = false → x.ents = [] := only_list hon
                  have hel : x.ents.length * 32 ≤ 140737488351232 := (hok x hxm).2.entsL
                  obtain ⟨eo, heo⟩ : ∃ b, entriesS ns x = b := ⟨_, rfl⟩
                  have hnb : nodeBad ns tg g x = (decide (x.gen ≥ tg) || (isGen g x.gen || (decide (x.mode > 4095) || (!decide (x.rn < 1000000000) || (!decide (x.wn < 1000000000) || (!decide (x.tn < 1000000000) || (x.kind == 2 && !eo))))))) := by unfold nodeBad; rw [heo]
                  rw [heo] at cE hth
                  unfold nodeA at cE
                  have hxo := (hok x hxm).1
                  have honeL : oneL (nodeA x) = true := nodeA_one hxo
                  have htop : topL (nodeA x) = 0 := nodeA_top0 hxo
                  unfold nodeA at honeL htop
                  clear hon hok heo
                  obtain ⟨kd, ge, mo, us, ng, li, xrs, xrn, xws, xwn, ts, tn, da, by_, vf, ta, ls, es, pa, nx⟩ := x
                  simp only [NodeS.ok, rowOk, entsOk] at hxo
                  obtain ⟨hd3, hd4⟩ := hxo
                  dsimp only at hnb hth hno cE hI2 hel honeL htop
                  cases qk : (kd != 0) with
                  | false =>
                    rw [qk, if_neg (fun h => Bool.noConfusion h), ← hw] at hI2
                    conv => whnf
                    (refine runK_ret (ev_indexSl (sz := 25) rfl rfl rfl rfl hI0 h1) ?_)
                    conv => whnf
                    (refine runK_ret (ev_loadVA (z := 25) rfl rfl rfl hcx hdx) ?_)
                    conv => whnf
                    (refine runK_store (z := 25) rfl rfl rfl rfl honeL rfl rfl rfl (Nat.le_of_ble_eq_true rfl) (.inl rfl) ?_)
                    conv => whnf
                    (refine listK_of (if_pos (Nat.le_trans (Nat.le_of_eq htop) (Nat.zero_le _))) ?_)
                    conv => whnf
                    ((with_reducible cases z0 : kd != Int.ofNat 0) <;> try exact Bool.noConfusion (Eq.trans (Eq.symm z0) qk))
                    conv => whnf
                    (exact ih (IntKind.wrap .i64 (i + 1), g, c) _ ⟨hwa.1, hwa.2, hI3, hI2⟩ hmu (by kernel_rfl))
                  | true =>
                    rw [qk, if_pos rfl, ← hw] at hI2
                    cases bg : isGen g ge with
                    | true =>
                      have hbt : nodeBad ns tg g ⟨kd, ge, mo, us, ng, li, xrs, xrn, xws, xwn, ts, tn, da, by_, vf, ta, ls, es, pa, nx⟩ = true := by rw [hnb, bg, Bool.true_or, Bool.or_true]
                      rw [hbt, if_pos rfl] at hI2
                      obtain ⟨k, hf1, hf2⟩ := gen_some g ge 0 bg
                      have hf3 := hf2 (.int .i64 2)
                      rw [Nat.zero_add] at hf1 hf3
                      clear ih hf2
                      conv => whnf
                      (refine runK_ret (ev_indexSl (sz := 25) rfl rfl rfl rfl hI0 h1) ?_)
                      conv => whnf
                      (refine runK_ret (ev_loadVA (z := 25) rfl rfl rfl hcx hdx) ?_)
                      conv => whnf
                      (refine runK_store (z := 25) rfl rfl rfl rfl honeL rfl rfl rfl (Nat.le_of_ble_eq_true rfl) (.inl rfl) ?_)
                      conv => whnf
                      (refine listK_of (if_pos (Nat.le_trans (Nat.le_of_eq htop) (Nat.zero_le _))) ?_)
                      conv => whnf
                      ((with_reducible cases z0 : kd != Int.ofNat 0) <;> try exact Bool.noConfusion (Eq.trans (Eq.symm z0) qk))
                      conv => whnf
                      (refine yield_K ?_)
                      conv => whnf
                      (refine runK_store (z := 25) rfl rfl rfl rfl honeL rfl rfl rfl (Nat.le_of_ble_eq_true rfl) (.inl rfl) ?_)
                      conv => whnf
                      (refine listK_of (if_pos (Nat.le_trans (Nat.le_of_eq htop) (Nat.zero_le _))) ?_)
                      conv => whnf
                      (refine runK_ret (v := .int .i64 1) (w := .none) (by simp only [hf1]; rfl) ?_)
                      conv => whnf
                      (refine     runK_ret (v := .tup []) (w := .blk 2 (.map ((gensA g).modify k fun e => (e.1, .int .i64 2))))       (by simp only [mapSetA, hf1]; rfl) ?_)
                      conv => whnf
                      (refine listK_of (if_pos (by rw [gmod_top]; exact Nat.zero_le _)) ?_)
                      conv => whnf
                      with_reducible cases z1 : decide (ge ≥ tg)
                      · conv => whnf
                        (refine runK_ret (v := .int .i64 2) (w := .none) (by simp only [hf3]; rfl) ?_)
                        conv => whnf
                        (rw [hI2])
                      · conv => whnf
                        (rw [hI2])
                    | false =>
                      have hf1 := gen_none g ge 0 bg
                      have hf2 := gen_last g ge 0 (.int .i64 1) bg
                      rw [← gensA_app] at hf2
                      have htp := gens_top (g ++ [ge])
                      rw [bg] at hnb
                      obtain ⟨bd, hbd⟩ : ∃ b, nodeBad ns tg g ⟨kd, ge, mo, us, ng, li, xrs, xrn, xws, xwn, ts, tn, da, by_, vf, ta, ls, es, pa, nx⟩ = b := ⟨_, rfl⟩
                      rw [hbd] at hnb hI2
                      have hfa : bd = true → r = false := by
                        intro hb
                        rw [hI2, hb]
                        rfl
                      cases b7 : (kd == 2) with
                      | false =>
                        obtain rfl := hno b7
                        rcases hd4 with ⟨rfl, _⟩ | ⟨lt, rfl⟩
                        · conv => whnf
                          (refine runK_ret (ev_indexSl (sz := 25) rfl rfl rfl rfl hI0 h1) ?_)
                          conv => whnf
                          (refine runK_ret (ev_loadVA (z := 25) rfl rfl rfl hcx hdx) ?_)
                          conv => whnf
                          (refine runK_store (z := 25) rfl rfl rfl rfl honeL rfl rfl rfl (Nat.le_of_ble_eq_true rfl) (.inl rfl) ?_)
                          conv => whnf
                          (refine listK_of (if_pos (Nat.le_trans (Nat.le_of_eq htop) (Nat.zero_le _))) ?_)
                          conv => whnf
                          ((with_reducible cases z0 : kd != Int.ofNat 0) <;> try exact Bool.noConfusion (Eq.trans (Eq.symm z0) qk))
                          conv => whnf
                          (refine yield_K ?_)
                          conv => whnf
                          (refine runK_store (z := 25) rfl rfl rfl rfl honeL rfl rfl rfl (Nat.le_of_ble_eq_true rfl) (.inl rfl) ?_)
                          conv => whnf
                          (refine listK_of (if_pos (Nat.le_trans (Nat.le_of_eq htop) (Nat.zero_le _))) ?_)
                          conv => whnf
                          (refine runK_ret (v := .int .i64 0) (w := .none) (by simp only [hf1]; rfl) ?_)
                          conv => whnf
                          (refine     runK_ret (v := .tup []) (w := .blk 2 (.map (gensA (g ++ [ge])))) (by simp only [mapSetA, hf1, gensA_app]; rfl) ?_)
                          conv => whnf
                          (refine listK_of (if_pos (by rw [map_top htp.1 htp.2]; exact Nat.zero_le _)) ?_)
                          conv => whnf
                          with_reducible cases z1 : decide (ge ≥ tg)
                          · conv => whnf
                            (refine runK_ret (v := .int .i64 1) (w := .none) (by simp only [hf2]; rfl) ?_)
                            conv => whnf
                            with_reducible cases z2 : decide (mo > Int.ofNat 4095)
                            · conv => whnf
                              with_reducible refine ⟨_, _, cT _ _ _ _, ?_⟩
                              conv => whnf
                              with_reducible cases z3 : decide (xrn < Int.ofNat 1000000000)
                              · conv => whnf
                                (rw [hfa (by clear ih; rw [hnb]; simp_all)])
                              · conv => whnf
                                with_reducible refine ⟨_, _, cT _ _ _ _, ?_⟩
                                conv => whnf
                                with_reducible cases z4 : decide (xwn < Int.ofNat 1000000000)
                                · conv => whnf
                                  (rw [hfa (by clear ih; rw [hnb]; simp_all)])
                                · conv => whnf
                                  with_reducible refine ⟨_, _, cT _ _ _ _, ?_⟩
                                  conv => whnf
                                  with_reducible cases z5 : decide (tn < Int.ofNat 1000000000)
                                  · conv => whnf
                                    (rw [hfa (by clear ih; rw [hnb]; simp_all)])
                                  · conv => whnf
                                    ((with_reducible cases z6 : kd == Int.ofNat 2) <;> try exact Bool.noConfusion (Eq.trans (Eq.symm z6) b7))
                                    conv => whnf
                                    have hbf : bd = false := by clear ih; rw [hnb]; simp_all
                                    rw [hbf, if_neg (fun h => Bool.noConfusion h)] at hI2
                                    rw [cntE] at hI2
                                    refine ⟨1, Nat.le_of_ble_eq_true rfl, ?_⟩
                                    conv => whnf
                                    (exact ih (IntKind.wrap .i64 (i + 1), g ++ [ge], c) _ ⟨hwa.1, hwa.2, hI3, hI2⟩ hmu (by kernel_rfl))
                            · conv => whnf
                              (rw [hfa (by clear ih; rw [hnb]; simp_all)])
                          · conv => whnf
                            (rw [hfa (by clear ih; rw [hnb]; simp_all)])
                        · conv => whnf
                          (refine runK_ret (ev_indexSl (sz := 25) rfl rfl rfl rfl hI0 h1) ?_)
                          conv => whnf
                          (refine runK_ret (ev_loadVA (z := 25) rfl rfl rfl hcx hdx) ?_)
                          conv => whnf
                          (refine runK_store (z := 25) rfl rfl rfl rfl honeL rfl rfl rfl (Nat.le_of_ble_eq_true rfl) (.inl rfl) ?_)
                          conv => whnf
                          (refine listK_of (if_pos (Nat.le_trans (Nat.le_of_eq htop) (Nat.zero_le _))) ?_)
                          conv => whnf
                          ((with_reducible cases z0 : kd != Int.ofNat 0) <;> try exact Bool.noConfusion (Eq.trans (Eq.symm z0) qk))
                          conv => whnf
                          (refine yield_K ?_)
                          conv => whnf
                          (refine runK_store (z := 25) rfl rfl rfl rfl honeL rfl rfl rfl (Nat.le_of_ble_eq_true rfl) (.inl rfl) ?_)
                          conv => whnf
                          (refine listK_of (if_pos (Nat.le_trans (Nat.le_of_eq htop) (Nat.zero_le _))) ?_)
                          conv => whnf
                          (refine runK_ret (v := .int .i64 0) (w := .none) (by simp only [hf1]; rfl) ?_)
                          conv => whnf
                          (refine     runK_ret (v := .tup []) (w := .blk 2 (.map (gensA (g ++ [ge])))) (by simp only [mapSetA, hf1, gensA_app]; rfl) ?_)
                          conv => whnf
                          (refine listK_of (if_pos (by rw [map_top htp.1 htp.2]; exact Nat.zero_le _)) ?_)
                          conv => whnf
                          with_reducible cases z1 : decide (ge ≥ tg)
                          · conv => whnf
                            (refine runK_ret (v := .int .i64 1) (w := .none) (by simp only [hf2]; rfl) ?_)
                            conv => whnf
                            with_reducible cases z2 : decide (mo > Int.ofNat 4095)
                            · conv => whnf
                              with_reducible refine ⟨_, _, cT _ _ _ _, ?_⟩
                              conv => whnf
                              with_reducible cases z3 : decide (xrn < Int.ofNat 1000000000)
                              · conv => whnf
                                (rw [hfa (by clear ih; rw [hnb]; simp_all)])
                              · conv => whnf
                                with_reducible refine ⟨_, _, cT _ _ _ _, ?_⟩
                                conv => whnf
                                with_reducible cases z4 : decide (xwn < Int.ofNat 1000000000)
                                · conv => whnf
                                  (rw [hfa (by clear ih; rw [hnb]; simp_all)])
                                · conv => whnf
                                  with_reducible refine ⟨_, _, cT _ _ _ _, ?_⟩
                                  conv => whnf
                                  with_reducible cases z5 : decide (tn < Int.ofNat 1000000000)
                                  · conv => whnf
                                    (rw [hfa (by clear ih; rw [hnb]; simp_all)])
                                  · conv => whnf
                                    ((with_reducible cases z6 : kd == Int.ofNat 2) <;> try exact Bool.noConfusion (Eq.trans (Eq.symm z6) b7))
                                    conv => whnf
                                    have hbf : bd = false := by clear ih; rw [hnb]; simp_all
                                    rw [hbf, if_neg (fun h => Bool.noConfusion h)] at hI2
                                    rw [cntE] at hI2
                                    refine ⟨1, Nat.le_of_ble_eq_true rfl, ?_⟩
                                    conv => whnf
                                    (exact ih (IntKind.wrap .i64 (i + 1), g ++ [ge], c) _ ⟨hwa.1, hwa.2, hI3, hI2⟩ hmu (by kernel_rfl))
                            · conv => whnf
                              (rw [hfa (by clear ih; rw [hnb]; simp_all)])
                          · conv => whnf
                            (rw [hfa (by clear ih; rw [hnb]; simp_all)])
                      | true =>
                        rcases hd4 with ⟨rfl, rfl⟩ | ⟨lt, rfl⟩
                        · conv => whnf
                          (refine runK_ret (ev_indexSl (sz := 25) rfl rfl rfl rfl hI0 h1) ?_)
                          conv => whnf
                          (refine runK_ret (ev_loadVA (z := 25) rfl rfl rfl hcx hdx) ?_)
                          conv => whnf
                          (refine runK_store (z := 25) rfl rfl rfl rfl honeL rfl rfl rfl (Nat.le_of_ble_eq_true rfl) (.inl rfl) ?_)
                          conv => whnf
                          (refine listK_of (if_pos (Nat.le_trans (Nat.le_of_eq htop) (Nat.zero_le _))) ?_)
                          conv => whnf
                          ((with_reducible cases z0 : kd != Int.ofNat 0) <;> try exact Bool.noConfusion (Eq.trans (Eq.symm z0) qk))
                          conv => whnf
                          (refine yield_K ?_)
                          conv => whnf
                          (refine runK_store (z := 25) rfl rfl rfl rfl honeL rfl rfl rfl (Nat.le_of_ble_eq_true rfl) (.inl rfl) ?_)
                          conv => whnf
                          (refine listK_of (if_pos (Nat.le_trans (Nat.le_of_eq htop) (Nat.zero_le _))) ?_)
                          conv => whnf
                          (refine runK_ret (v := .int .i64 0) (w := .none) (by simp only [hf1]; rfl) ?_)
                          conv => whnf
                          (refine     runK_ret (v := .tup []) (w := .blk 2 (.map (gensA (g ++ [ge])))) (by simp only [mapSetA, hf1, gensA_app]; rfl) ?_)
                          conv => whnf
                          (refine listK_of (if_pos (by rw [map_top htp.1 htp.2]; exact Nat.zero_le _)) ?_)
                          conv => whnf
                          with_reducible cases z1 : decide (ge ≥ tg)
                          · conv => whnf
                            (refine runK_ret (v := .int .i64 1) (w := .none) (by simp only [hf2]; rfl) ?_)
                            conv => whnf
                            with_reducible cases z2 : decide (mo > Int.ofNat 4095)
                            · conv => whnf
                              with_reducible refine ⟨_, _, cT _ _ _ _, ?_⟩
                              conv => whnf
                              with_reducible cases z3 : decide (xrn < Int.ofNat 1000000000)
                              · conv => whnf
                                (rw [hfa (by clear ih; rw [hnb]; simp_all)])
                              · conv => whnf
                                with_reducible refine ⟨_, _, cT _ _ _ _, ?_⟩
                                conv => whnf
                                with_reducible cases z4 : decide (xwn < Int.ofNat 1000000000)
                                · conv => whnf
                                  (rw [hfa (by clear ih; rw [hnb]; simp_all)])
                                · conv => whnf
                                  with_reducible refine ⟨_, _, cT _ _ _ _, ?_⟩
                                  conv => whnf
                                  with_reducible cases z5 : decide (tn < Int.ofNat 1000000000)
                                  · conv => whnf
                                    (rw [hfa (by clear ih; rw [hnb]; simp_all)])
                                  · conv => whnf
                                    ((with_reducible cases z6 : kd == Int.ofNat 2) <;> try exact Bool.noConfusion (Eq.trans (Eq.symm z6) b7))
                                    conv => whnf
                                    with_reducible refine ⟨_, _, cE _ _, ?_⟩
                                    conv => whnf
                                    cases eo
                                    · conv => whnf
                                      (rw [hfa (by clear ih; rw [hnb]; simp_all)])
                                    · conv => whnf
                                      have hbf : bd = false := by clear ih; rw [hnb]; simp_all
                                      rw [hbf, if_neg (fun h => Bool.noConfusion h)] at hI2
                                      rw [cntE] at hI2
                                      refine ⟨1, Nat.le_of_ble_eq_true rfl, ?_⟩
                                      conv => whnf
                                      (exact ih (IntKind.wrap .i64 (i + 1), g ++ [ge], c) _ ⟨hwa.1, hwa.2, hI3, hI2⟩ hmu (by kernel_rfl))
                            · conv => whnf
                              (rw [hfa (by clear ih; rw [hnb]; simp_all)])
                          · conv => whnf
                            (rw [hfa (by clear ih; rw [hnb]; simp_all)])
                        · conv => whnf
                          (refine runK_ret (ev_indexSl (sz := 25) rfl rfl rfl rfl hI0 h1) ?_)
                          conv => whnf
                          (refine runK_ret (ev_loadVA (z := 25) rfl rfl rfl hcx hdx) ?_)
                          conv => whnf
                          (refine runK_store (z := 25) rfl rfl rfl rfl honeL rfl rfl rfl (Nat.le_of_ble_eq_true rfl) (.inl rfl) ?_)
                          conv => whnf
                          (refine listK_of (if_pos (Nat.le_trans (Nat.le_of_eq htop) (Nat.zero_le _))) ?_)
                          conv => whnf
                          ((with_reducible cases z0 : kd != Int.ofNat 0) <;> try exact Bool.noConfusion (Eq.trans (Eq.symm z0) qk))
                          conv => whnf
                          (refine yield_K ?_)
                          conv => whnf
                          (refine runK_store (z := 25) rfl rfl rfl rfl honeL rfl rfl rfl (Nat.le_of_ble_eq_true rfl) (.inl rfl) ?_)
                          conv => whnf
                          (refine listK_of (if_pos (Nat.le_trans (Nat.le_of_eq htop) (Nat.zero_le _))) ?_)
                          conv => whnf
                          (refine runK_ret (v := .int .i64 0) (w := .none) (by simp only [hf1]; rfl) ?_)
                          conv => whnf
                          (refine     runK_ret (v := .tup []) (w := .blk 2 (.map (gensA (g ++ [ge])))) (by simp only [mapSetA, hf1, gensA_app]; rfl) ?_)
                          conv => whnf
                          (refine listK_of (if_pos (by rw [map_top htp.1 htp.2]; exact Nat.zero_le _)) ?_)
                          conv => whnf
                          with_reducible cases z1 : decide (ge ≥ tg)
                          · conv => whnf
                            (refine runK_ret (v := .int .i64 1) (w := .none) (by simp only [hf2]; rfl) ?_)
                            conv => whnf
                            with_reducible cases z2 : decide (mo > Int.ofNat 4095)
                            · conv => whnf
                              with_reducible refine ⟨_, _, cT _ _ _ _, ?_⟩
                              conv => whnf
                              with_reducible cases z3 : decide (xrn < Int.ofNat 1000000000)
                              · conv => whnf
                                (rw [hfa (by clear ih; rw [hnb]; simp_all)])
                              · conv => whnf
                                with_reducible refine ⟨_, _, cT _ _ _ _, ?_⟩
                                conv => whnf
                                with_reducible cases z4 : decide (xwn < Int.ofNat 1000000000)
                                · conv => whnf
                                  (rw [hfa (by clear ih; rw [hnb]; simp_all)])
                                · conv => whnf
                                  with_reducible refine ⟨_, _, cT _ _ _ _, ?_⟩
                                  conv => whnf
                                  with_reducible cases z5 : decide (tn < Int.ofNat 1000000000)
                                  · conv => whnf
                                    (rw [hfa (by clear ih; rw [hnb]; simp_all)])
                                  · conv => whnf
                                    ((with_reducible cases z6 : kd == Int.ofNat 2) <;> try exact Bool.noConfusion (Eq.trans (Eq.symm z6) b7))
                                    conv => whnf
                                    with_reducible refine ⟨_, _, cE _ _, ?_⟩
                                    conv => whnf
                                    cases eo
                                    · conv => whnf
                                      (rw [hfa (by clear ih; rw [hnb]; simp_all)])
                                    · conv => whnf
                                      have hbf : bd = false := by clear ih; rw [hnb]; simp_all
                                      rw [hbf, if_neg (fun h => Bool.noConfusion h)] at hI2
                                      refine ⟨es.length + 1, by show es.length + 1 ≤ 4611686018427387904; omega, ?_⟩
                                      refine rounds_at (fun s (a : Int × Cnt) => ⟨RG.of 210 [(120, .int .i64 a.1), (119, .int .i64 es.length), (118, .sl (entriesA es) es.length lt), (8, .int .i64 i), (7, .ref 12 0 0), (6, .ref 11 0 0), (5, .ref 10 0 0), (1, .ref 0 0 0)], ⟨(((s.h.bs.set 4 (.cells (numsA .i64 a.2.named) ⟨true, 1, false, true⟩)).set 6 (.cells (numsA .i64 a.2.subs) ⟨true, 1, false, true⟩)).set 8 (.cells (numsA .i64 a.2.home) ⟨true, 1, false, true⟩)), s.h.esc⟩⟩) (fun a => 0 ≤ a.1 ∧ a.1 ≤ es.length ∧ a.2.len ns.length ∧ cntE ns i c es = cntE ns i a.2 (es.drop a.1.toNat)) (fun a => (es.length - a.1).toNat) _ (0, c) ⟨by simp only; omega, by simp only; omega, hI3, rfl⟩ (by simp only; omega) (by kernel_rfl) ?_
                                      intro a m'' hJ ih2
                                      obtain ⟨j, c'⟩ := a
                                      dsimp only at hJ ih2 ⊢
                                      obtain ⟨hJ0, hJ1, hJ3, hJ2⟩ := hJ
                                      conv => whnf
                                      cases h3 : decide (j < (es.length : Int)) with
                                      | false =>
                                        have h3 := of_decide_eq_false h3
                                        rw [List.drop_eq_nil_of_le (by omega), cntE] at hJ2
                                        rw [hJ2] at hI2
                                        clear ih2
                                        conv => whnf
                                        (exact ih (IntKind.wrap .i64 (i + 1), g ++ [ge], c') _ ⟨hwa.1, hwa.2, hJ3, hI2⟩ hmu (by kernel_rfl))
                                      | true =>
                                        have h3 := of_decide_eq_true h3
                                        clear ih hI2
                                        obtain ⟨e, he⟩ : ∃ e, es[j.toNat]? = some e := ⟨_, List.getElem?_eq_getElem (by omega)⟩
                                        have hce : j.toNat * 3 + 3 ≤ (entriesA es).length := by rw [entriesA_len]; omega
                                        have hde := entriesA_entry he
                                        have hte2 := hth b7 rfl e (List.mem_of_getElem? he)
                                        rw [cntE_drop he] at hJ2
                                        have hwj : IntKind.wrap .i64 (j + 1) = j + 1 := wrap64 (by omega) (by omega)
                                        have hmj : (es.length - IntKind.wrap .i64 (j + 1)).toNat < (es.length - j).toNat := by rw [hwj]; omega
                                        have hwb : 0 ≤ IntKind.wrap .i64 (j + 1) ∧ IntKind.wrap .i64 (j + 1) ≤ es.length := by rw [hwj]; omega
                                        rw [show j.toNat + 1 = (IntKind.wrap .i64 (j + 1)).toNat by rw [hwj]; omega] at hJ2
                                        have hl3 := stepE_len (ns := ns) (i := i) (e := e) hJ3
                                        obtain ⟨n1, n2, n3⟩ := hJ3
                                        unfold thereS at hte2
                                        rw [Bool.and_eq_true, Bool.and_eq_true, decide_eq_true_eq, decide_eq_true_eq] at hte2
                                        have he0 : 0 ≤ e.node := by omega
                                        have he1 : e.node < ns.length := hte2.2.1
                                        have hN : e.node.toNat < c'.named.length := by omega
                                        have hH : e.node.toNat < c'.home.length := by omega
                                        have hS : i.toNat < c'.subs.length := by omega
                                        clear hte2
                                        have cJ := fun f h => cI f h e.node
                                        obtain ⟨xa, xb, xc⟩ := e
                                        unfold stepE at hJ2 hl3
                                        dsimp only at cJ hJ2 hl3 he0 he1 hN hH
                                        cases qd : dirS ns xb with
                                        | false =>
                                          rw [qd] at cJ
                                          rw [qd, if_neg (fun h => Bool.noConfusion h)] at hJ2 hl3
                                          conv => whnf
                                          (refine runK_ret (ev_indexSl (sz := 3) rfl rfl rfl rfl hJ0 h3) ?_)
                                          conv => whnf
                                          (refine runK_ret (ev_loadVA (z := 3) rfl rfl rfl hce hde) ?_)
                                          conv => whnf
                                          (refine runK_ret (ev_indexRsl (sz := 1) rfl rfl rfl rfl he0 he1) ?_)
                                          conv => whnf
                                          (refine runK_if rfl (runK_cell rfl (ints_get (l := c'.named) (k := xb.toNat) hN) (runK_ret rfl ?_)))
                                          conv => whnf
                                          (refine runK_ret (ev_indexRsl (sz := 1) rfl rfl rfl rfl he0 he1) ?_)
                                          conv => whnf
                                          (refine     runK_if ⟨rfl, rfl, (by show 0 + xb.toNat * 1 + 1 ≤ (numsA .i64 c'.named).length; rw [ints_len]; omega), .inr rfl⟩       ?_)
                                          conv => whnf
                                          (refine listK_of (ints_put (l := c'.named) (k := xb.toNat) hN) ?_)
                                          conv => whnf
                                          (refine runK_ret (ev_indexRsl (sz := 1) rfl rfl rfl rfl he0 he1) ?_)
                                          conv => whnf
                                          (refine     runK_if ⟨rfl, rfl, (by show 0 + xb.toNat * 1 + 1 ≤ (numsA .i64 c'.home).length; rw [ints_len]; omega), .inr rfl⟩ ?_)
                                          conv => whnf
                                          (refine listK_of (ints_put (l := c'.home) (k := xb.toNat) hH) ?_)
                                          conv => whnf
                                          with_reducible refine ⟨_, _, cJ _ _, ?_⟩
                                          conv => whnf
                                          (exact     ih2 (IntKind.wrap .i64 (j + 1), ⟨bump c'.named xb, c'.subs, c'.home.set xb.toNat i⟩) _ ⟨hwb.1, hwb.2, hl3, hJ2⟩ hmj       (by kernel_rfl))
                                        | true =>
                                          rw [qd] at cJ
                                          rw [qd, if_pos rfl] at hJ2 hl3
                                          conv => whnf
                                          (refine runK_ret (ev_indexSl (sz := 3) rfl rfl rfl rfl hJ0 h3) ?_)
                                          conv => whnf
                                          (refine runK_ret (ev_loadVA (z := 3) rfl rfl rfl hce hde) ?_)
                                          conv => whnf
                                          (refine runK_ret (ev_indexRsl (sz := 1) rfl rfl rfl rfl he0 he1) ?_)
                                          conv => whnf
                                          (refine runK_if rfl (runK_cell rfl (ints_get (l := c'.named) (k := xb.toNat) hN) (runK_ret rfl ?_)))
                                          conv => whnf
                                          (refine runK_ret (ev_indexRsl (sz := 1) rfl rfl rfl rfl he0 he1) ?_)
                                          conv => whnf
                                          (refine     runK_if ⟨rfl, rfl, (by show 0 + xb.toNat * 1 + 1 ≤ (numsA .i64 c'.named).length; rw [ints_len]; omega), .inr rfl⟩       ?_)
                                          conv => whnf
                                          (refine listK_of (ints_put (l := c'.named) (k := xb.toNat) hN) ?_)
                                          conv => whnf
                                          (refine runK_ret (ev_indexRsl (sz := 1) rfl rfl rfl rfl he0 he1) ?_)
                                          conv => whnf
                                          (refine     runK_if ⟨rfl, rfl, (by show 0 + xb.toNat * 1 + 1 ≤ (numsA .i64 c'.home).length; rw [ints_len]; omega), .inr rfl⟩ ?_)
                                          conv => whnf
                                          (refine listK_of (ints_put (l := c'.home) (k := xb.toNat) hH) ?_)
                                          conv => whnf
                                          with_reducible refine ⟨_, _, cJ _ _, ?_⟩
                                          conv => whnf
                                          (refine runK_ret (ev_indexRsl (sz := 1) rfl rfl rfl rfl hI0 h1) ?_)
                                          conv => whnf
                                          (refine runK_if rfl (runK_cell rfl (ints_get (l := c'.subs) (k := i.toNat) hS) (runK_ret rfl ?_)))
                                          conv => whnf
                                          (refine runK_ret (ev_indexRsl (sz := 1) rfl rfl rfl rfl hI0 h1) ?_)
                                          conv => whnf
                                          (refine     runK_if ⟨rfl, rfl, (by show 0 + i.toNat * 1 + 1 ≤ (numsA .i64 c'.subs).length; rw [ints_len]; omega), .inr rfl⟩ ?_)
                                          conv => whnf
                                          (refine listK_of (ints_put (l := c'.subs) (k := i.toNat) hS) ?_)
                                          conv => whnf
                                          (exact     ih2 (IntKind.wrap .i64 (j + 1), ⟨bump c'.named xb, (bump c'.subs i), c'.home.set xb.toNat i⟩) _       ⟨hwb.1, hwb.2, hl3, hJ2⟩ hmj (by kernel_rfl))
                            · conv => whnf
                              (rw [hfa (by clear ih; rw [hnb]; simp_all)])
                          · conv => whnf
                            (rw [hfa (by clear ih; rw [hnb]; simp_all)])
end Go.Proofs.Ytlglhnadalbddaa.Ab
/- Over the engine: a setting that comes as an argument. -/
namespace Go.Proofs.Ytlglhnadalbddaa.Ab
open Go Go.RowKit
/-- A tree, a node, somebody, what is to be set, and the world. -/
structure SettingS where
  t : TreeS
  n : Int
  c : CredS
  s : SetS
  ss : Int
  sn : Int
  bo : Nat → Int
def settingA (x : SettingS) : AV := .agg [x.t.v, .int .u32 x.t.gen, .int .i64 x.n, .int .u32 x.c.user, .int .u32 x.c.group, x.c.gs, .bool x.s.hm, .int .u32 x.s.mode, .bool x.s.hu, .int .u32 x.s.user, .bool x.s.hg, .int .u32 x.s.group, .bool x.s.hs, .int .u64 x.s.size, .int .u32 x.s.rh, .int .u32 x.s.rs, .int .u32 x.s.rn, .int .u32 x.s.wh, .int .u32 x.s.ws, .int .u32 x.s.wn,
  .int .u32 x.ss, .int .u32 x.sn, .int .u8 (x.bo 0), .int .u8 (x.bo 1), .int .u8 (x.bo 2), .int .u8 (x.bo 3), .int .u8 (x.bo 4), .int .u8 (x.bo 5), .int .u8 (x.bo 6), .int .u8 (x.bo 7)]
def setTyL : List Ty := [.bool, .int .u32, .bool, .int .u32, .bool, .int .u32, .bool, .int .u64, .int .u32, .seq [.int .u32, .int .u32], .int .u32, .seq [.int .u32, .int .u32]]
def worldTyL : List Ty := [.seq [.int .u32, .int .u32], .seq [.int .u8, .int .u8, .int .u8, .int .u8, .int .u8, .int .u8, .int .u8, .int .u8]]
def settingTyL (B : Nat) : List Ty := [.seq (treeTyL B), .int .i64, .seq credTyL, .seq setTyL, .seq worldTyL]
structure SettingS.ok (x : SettingS) : Prop where
  t : x.t.ok
  c : x.c.ok
  size : 0 ≤ x.s.size ∧ x.s.size < 18446744073709551616
theorem sh_setting {B : Nat} (hB : 0 < B) {r : List AV} (h : ShL (settingTyL B) r) : ∃ x : SettingS, .agg r = settingA x ∧ x.ok := by
  unfold settingTyL at h
  rw [ShL] at h
  obtain ⟨_, _, rfl, a0, h⟩ := h
  rw [ShL] at h
  obtain ⟨_, _, rfl, a1, h⟩ := h
  rw [ShL] at h
  obtain ⟨_, _, rfl, a2, h⟩ := h
  rw [ShL] at h
  obtain ⟨_, _, rfl, a3, h⟩ := h
  rw [ShL] at h
  obtain ⟨_, _, rfl, a4, h⟩ := h
  rw [ShL] at h
  subst h
  unfold Sh at a0 a1 a2
  obtain ⟨t, rfl, ht⟩ := sh_tree hB a0
  obtain ⟨n, rfl, _⟩ := a1
  obtain ⟨c, rfl, hc, _⟩ := sh_cred a2
  simp only [Sh, ShL, setTyL, worldTyL] at a3 a4
  obtain ⟨_, _, rfl, ⟨hm, rfl⟩, _, _, rfl, ⟨mo, rfl, _⟩, _, _, rfl, ⟨hu, rfl⟩, _, _, rfl, ⟨us, rfl, _⟩, _, _, rfl, ⟨hg, rfl⟩, _, _, rfl, ⟨gr, rfl, _⟩, _, _, rfl, ⟨hs, rfl⟩, _, _, rfl, ⟨sz, rfl, w⟩, _, _, rfl, ⟨rh, rfl, _⟩, _, _, rfl, ⟨_, _, rfl, ⟨rs, rfl, _⟩, _, _, rfl, ⟨rn, rfl, _⟩, rfl⟩, _, _, rfl, ⟨wh, rfl, _⟩, _, _, rfl, ⟨_, _, rfl, ⟨ws, rfl, _⟩, _, _, rfl, ⟨wn, rfl, _⟩, rfl⟩, rfl⟩ := a3
  obtain ⟨_, _, rfl, ⟨_, _, rfl, ⟨ss, rfl, _⟩, _, _, rfl, ⟨sn, rfl, _⟩, rfl⟩, _, _, rfl, ⟨_, _, rfl, ⟨v0, rfl, _⟩, _, _, rfl, ⟨v1, rfl, _⟩, _, _, rfl, ⟨v2, rfl, _⟩, _, _, rfl, ⟨v3, rfl, _⟩, _, _, rfl, ⟨v4, rfl, _⟩, _, _, rfl, ⟨v5, rfl, _⟩, _, _, rfl, ⟨v6, rfl, _⟩, _, _, rfl, ⟨v7, rfl, _⟩, rfl⟩, rfl⟩ := a4
  exact ⟨⟨t, n, c, ⟨hm, mo, hu, us, hg, gr, hs, sz, rh, rs, rn, wh, ws, wn⟩, ss, sn, fun i => match i with | 0 => v0 | 1 => v1 | 2 => v2 | 3 => v3 | 4 => v4 | 5 => v5 | 6 => v6 | _ => v7⟩, rfl, ⟨ht, hc, wf_u64 w⟩⟩
end Go.Proofs.Ytlglhnadalbddaa.Ab
/- Over the engine: what is refused; the law GuardTwice. -/
namespace Go.Proofs.Ytlglhnadalbddaa.Ab
open Go Go.RowKit

set_option maxRecDepth 100000
def code4 (a1 a2 a3 a4 : Int) : Int := if (a1 != 0) = true then a1 else if (a2 != 0) = true then a2 else if (a3 != 0) = true then a3 else a4
set_option maxHeartbeats 8000000 in
theorem set_bad (m : Nat) (from_ : FuncId) (h : H) (ns : List NodeS) (t : Bool) (gen n : Int) (c : CredS) (hc : c.ok) (s : SetS) (ss sn : Int) (bo : Nat → Int) (hok : ∀ x ∈ ns, x.fit) (hn : thereS ns n = true) (x : NodeS) (hx : ns[n.toNat]? = some x) (hlen : ns.length ≤ 300) (e : Int) (he : e = code4 (formS s sn) (if ownerS x c s (ownsS ns n c) = true then 1 else 0) (sizeB x s (ownsS ns n c || mayX x c 2)) (stampsB s (ownsS ns n c) (ownsS ns n c || mayX x c 2))) (hne : (e != 0) = true) : evCall TE (m + 7) from_ (.fn 7 [] []) [.agg [.sl (nodesA ns) ns.length t, .int .u32 gen], .int .i64 n, .agg [.int .u32 c.user, .int .u32 c.group, c.gs], .agg (setA s), worldA ss sn bo] h = some (.ret (.tup [.agg [.sl0, .int .u32 0], .int .u32 e]), h) := by
  have c1 : ∀ (f : FuncId) (h : H), (evAll TE (m + 6)).1 f (.fn 10 [] []) [.agg [.sl (nodesA ns) ns.length t, .int .u32 gen], .int .i64 n] h = some (.ret (.tup [.agg (attrsS x n), .bool true]), h) := fun f h => attrs_some (m + 4) f h _ ns (.inr ⟨t, rfl⟩) gen n x hn hx (hok x (List.mem_of_getElem? hx)).1
  have c2 : ∀ (f : FuncId) (h : H), (evAll TE (m + 6)).1 f (.fn 22 [] []) [.agg [.sl (nodesA ns) ns.length t, .int .u32 gen], .int .i64 n, .agg [.int .u32 c.user, .int .u32 c.group, c.gs]] h = some (.ret (.bool (ownsS ns n c)), h) := fun f h => owns_c (m + 3) f h _ ns (.inr ⟨t, rfl⟩) (fun x hx => (hok x hx).1) gen n c hc
  generalize ownsS ns n c = ow at *
  have hcl : cleanL [askA (.sl (nodesA ns) ns.length t) gen n c s ss sn ow] = true := by
    unfold askA
    rcases hc.1 with ⟨hg, _⟩ | ⟨tt, hg⟩ <;> rw [hg] <;> rfl
  have hrw : ∀ f g : FuncId, (g = 23 ∨ g = 24 ∨ g = 25 ∨ g = 26) → TE.raw f g = false := by
    intro f g hg
    rcases hg with rfl | rfl | rfl | rfl <;> rfl
  have c3 : ∀ (f : FuncId) (h : H), (evAll TE (m + 6)).1 f (.fn 23 [askA (.sl (nodesA ns) ns.length t) gen n c s ss sn ow] []) [] h = some (.ret (.int .u32 (formS s sn)), h) := fun f h => (call_bound hcl (hrw f _ (.inl rfl))).trans <| form_c (m + 4) f h ns t gen n c hc s ss sn ow
  have c4 : ∀ (f : FuncId) (h : H), (evAll TE (m + 6)).1 f (.fn 24 [askA (.sl (nodesA ns) ns.length t) gen n c s ss sn ow] []) [] h = some (.ret (.int .u32 (if ownerS x c s ow = true then 1 else 0)), h) := fun f h => (call_bound hcl (hrw f _ (.inr (.inl rfl)))).trans <| owner_c (m + 1) f h ns t gen n c hc s ss sn ow (fun x hx => (hok x hx).1) hn x hx
  have c5 : ∀ (f : FuncId) (h : H), (evAll TE (m + 6)).1 f (.fn 25 [askA (.sl (nodesA ns) ns.length t) gen n c s ss sn ow] []) [] h = some (.ret (.int .u32 (sizeB x s (ow || mayX x c 2))), h) := fun f h => (call_bound hcl (hrw f _ (.inr (.inr (.inl rfl))))).trans <| size_c m f h ns t gen n c hc s ss sn ow (fun x hx => (hok x hx).1) hn x hx
  have c6 : ∀ (f : FuncId) (h : H), (evAll TE (m + 6)).1 f (.fn 26 [askA (.sl (nodesA ns) ns.length t) gen n c s ss sn ow] []) [] h = some (.ret (.int .u32 (stampsB s ow (ow || mayX x c 2))), h) := fun f h => (call_bound hcl (hrw f _ (.inr (.inr (.inr rfl))))).trans <| stamps_c m f h ns t gen n c hc s ss sn ow (fun x hx => (hok x hx).1) hn x hx
  generalize formS s sn = a1 at c3 he
  generalize (if ownerS x c s ow = true then (1 : Int) else 0) = a2 at c4 he
  generalize sizeB x s (ow || mayX x c 2) = a3 at c5 he
  generalize stampsB s ow (ow || mayX x c 2) = a4 at c6 he
  unfold code4 at he
  have hn0 : 0 ≤ n := by unfold thereS at hn; rw [Bool.and_eq_true, Bool.and_eq_true, decide_eq_true_eq, decide_eq_true_eq] at hn; omega
  have hn1 : n < ns.length := by unfold thereS at hn; rw [Bool.and_eq_true, Bool.and_eq_true, decide_eq_true_eq, decide_eq_true_eq] at hn; omega
  unfold askA at c3 c4 c5 c6
  obtain ⟨u, gr, gs, l⟩ := c
  dsimp only at c1 c2 c3 c4 c5 c6 ⊢
  obtain ⟨hm, mode, hu, user, hg, group, hs, size, rh, rs, rn, wh, ws, wn⟩ := s
  unfold attrsS at c1
  unfold setA worldA
  dsimp only at c3 c4 c5 c6 ⊢
  obtain ⟨h1, h2⟩ := hc
  dsimp only at h1 h2
  rcases h1 with ⟨rfl, rfl⟩ | ⟨tt, rfl⟩
  · cases q1 : (a1 != 0) with
    | true =>
      rw [q1, if_pos rfl] at he
      subst he
      refine call_clean (fn := Try.f7) rfl Try.func7 rfl rfl rfl rfl rfl (Nat.le_of_ble_eq_true rfl) ?_
      conv => whnf
      with_reducible refine ⟨_, _, c1 _ _, ?_⟩
      conv => whnf
      with_reducible refine ⟨_, _, c2 _ _, ?_⟩
      conv => whnf
      (refine ⟨rfl, ?_⟩)
      conv => whnf
      (refine ⟨by kernel_rfl, ?_⟩)
      conv => whnf
      (with_reducible refine ⟨(5 : Nat), ?_, ?_⟩; · exact Nat.le_of_ble_eq_true rfl)
      conv => whnf
      with_reducible refine ⟨_, _, c3 _ _, ?_⟩
      conv => whnf
      cases z0 : e != Int.ofNat 0
      · exact Bool.noConfusion (Eq.trans (Eq.symm z0) hne)
      · conv => whnf
        rfl
    | false =>
      rw [q1, if_neg (fun h => Bool.noConfusion h)] at he
      cases q2 : (a2 != 0) with
      | true =>
        rw [q2, if_pos rfl] at he
        subst he
        refine call_clean (fn := Try.f7) rfl Try.func7 rfl rfl rfl rfl rfl (Nat.le_of_ble_eq_true rfl) ?_
        conv => whnf
        with_reducible refine ⟨_, _, c1 _ _, ?_⟩
        conv => whnf
        with_reducible refine ⟨_, _, c2 _ _, ?_⟩
        conv => whnf
        (refine ⟨rfl, ?_⟩)
        conv => whnf
        (refine ⟨by kernel_rfl, ?_⟩)
        conv => whnf
        (with_reducible refine ⟨(5 : Nat), ?_, ?_⟩; · exact Nat.le_of_ble_eq_true rfl)
        conv => whnf
        with_reducible refine ⟨_, _, c3 _ _, ?_⟩
        conv => whnf
        cases z0 : a1 != Int.ofNat 0
        · conv => whnf
          with_reducible refine ⟨_, _, c4 _ _, ?_⟩
          conv => whnf
          cases z1 : e != Int.ofNat 0
          · exact Bool.noConfusion (Eq.trans (Eq.symm z1) hne)
          · conv => whnf
            rfl
        · exact Bool.noConfusion (Eq.trans (Eq.symm z0) q1)
      | false =>
        rw [q2, if_neg (fun h => Bool.noConfusion h)] at he
        cases q3 : (a3 != 0) with
        | true =>
          rw [q3, if_pos rfl] at he
          subst he
          refine call_clean (fn := Try.f7) rfl Try.func7 rfl rfl rfl rfl rfl (Nat.le_of_ble_eq_true rfl) ?_
          conv => whnf
          with_reducible refine ⟨_, _, c1 _ _, ?_⟩
          conv => whnf
          with_reducible refine ⟨_, _, c2 _ _, ?_⟩
          conv => whnf
          (refine ⟨rfl, ?_⟩)
          conv => whnf
          (refine ⟨by kernel_rfl, ?_⟩)
          conv => whnf
          (with_reducible refine ⟨(5 : Nat), ?_, ?_⟩; · exact Nat.le_of_ble_eq_true rfl)
          conv => whnf
          with_reducible refine ⟨_, _, c3 _ _, ?_⟩
          conv => whnf
          cases z0 : a1 != Int.ofNat 0
          · conv => whnf
            with_reducible refine ⟨_, _, c4 _ _, ?_⟩
            conv => whnf
            cases z1 : a2 != Int.ofNat 0
            · conv => whnf
              with_reducible refine ⟨_, _, c5 _ _, ?_⟩
              conv => whnf
              cases z2 : e != Int.ofNat 0
              · exact Bool.noConfusion (Eq.trans (Eq.symm z2) hne)
              · conv => whnf
                rfl
            · exact Bool.noConfusion (Eq.trans (Eq.symm z1) q2)
          · exact Bool.noConfusion (Eq.trans (Eq.symm z0) q1)
        | false =>
          rw [q3, if_neg (fun h => Bool.noConfusion h)] at he
          subst he
          refine call_clean (fn := Try.f7) rfl Try.func7 rfl rfl rfl rfl rfl (Nat.le_of_ble_eq_true rfl) ?_
          conv => whnf
          with_reducible refine ⟨_, _, c1 _ _, ?_⟩
          conv => whnf
          with_reducible refine ⟨_, _, c2 _ _, ?_⟩
          conv => whnf
          (refine ⟨rfl, ?_⟩)
          conv => whnf
          (refine ⟨by kernel_rfl, ?_⟩)
          conv => whnf
          (with_reducible refine ⟨(5 : Nat), ?_, ?_⟩; · exact Nat.le_of_ble_eq_true rfl)
          conv => whnf
          with_reducible refine ⟨_, _, c3 _ _, ?_⟩
          conv => whnf
          cases z0 : a1 != Int.ofNat 0
          · conv => whnf
            with_reducible refine ⟨_, _, c4 _ _, ?_⟩
            conv => whnf
            cases z1 : a2 != Int.ofNat 0
            · conv => whnf
              with_reducible refine ⟨_, _, c5 _ _, ?_⟩
              conv => whnf
              cases z2 : a3 != Int.ofNat 0
              · conv => whnf
                with_reducible refine ⟨_, _, c6 _ _, ?_⟩
                conv => whnf
                cases z3 : e != Int.ofNat 0
                · exact Bool.noConfusion (Eq.trans (Eq.symm z3) hne)
                · conv => whnf
                  rfl
              · exact Bool.noConfusion (Eq.trans (Eq.symm z2) q3)
            · exact Bool.noConfusion (Eq.trans (Eq.symm z1) q2)
          · exact Bool.noConfusion (Eq.trans (Eq.symm z0) q1)
  · cases q1 : (a1 != 0) with
    | true =>
      rw [q1, if_pos rfl] at he
      subst he
      refine call_clean (fn := Try.f7) rfl Try.func7 rfl rfl rfl rfl rfl (Nat.le_of_ble_eq_true rfl) ?_
      conv => whnf
      with_reducible refine ⟨_, _, c1 _ _, ?_⟩
      conv => whnf
      with_reducible refine ⟨_, _, c2 _ _, ?_⟩
      conv => whnf
      (refine ⟨rfl, ?_⟩)
      conv => whnf
      (refine ⟨by kernel_rfl, ?_⟩)
      conv => whnf
      (with_reducible refine ⟨(5 : Nat), ?_, ?_⟩; · exact Nat.le_of_ble_eq_true rfl)
      conv => whnf
      with_reducible refine ⟨_, _, c3 _ _, ?_⟩
      conv => whnf
      cases z0 : e != Int.ofNat 0
      · exact Bool.noConfusion (Eq.trans (Eq.symm z0) hne)
      · conv => whnf
        rfl
    | false =>
      rw [q1, if_neg (fun h => Bool.noConfusion h)] at he
      cases q2 : (a2 != 0) with
      | true =>
        rw [q2, if_pos rfl] at he
        subst he
        refine call_clean (fn := Try.f7) rfl Try.func7 rfl rfl rfl rfl rfl (Nat.le_of_ble_eq_true rfl) ?_
        conv => whnf
        with_reducible refine ⟨_, _, c1 _ _, ?_⟩
        conv => whnf
        with_reducible refine ⟨_, _, c2 _ _, ?_⟩
        conv => whnf
        (refine ⟨rfl, ?_⟩)
        conv => whnf
        (refine ⟨by kernel_rfl, ?_⟩)
        conv => whnf
        (with_reducible refine ⟨(5 : Nat), ?_, ?_⟩; · exact Nat.le_of_ble_eq_true rfl)
        conv => whnf
        with_reducible refine ⟨_, _, c3 _ _, ?_⟩
        conv => whnf
        cases z0 : a1 != Int.ofNat 0
        · conv => whnf
          with_reducible refine ⟨_, _, c4 _ _, ?_⟩
          conv => whnf
          cases z1 : e != Int.ofNat 0
          · exact Bool.noConfusion (Eq.trans (Eq.symm z1) hne)
          · conv => whnf
            rfl
        · exact Bool.noConfusion (Eq.trans (Eq.symm z0) q1)
      | false =>
        rw [q2, if_neg (fun h => Bool.noConfusion h)] at he
        cases q3 : (a3 != 0) with
        | true =>
          rw [q3, if_pos rfl] at he
          subst he
          refine call_clean (fn := Try.f7) rfl Try.func7 rfl rfl rfl rfl rfl (Nat.le_of_ble_eq_true rfl) ?_
          conv => whnf
          with_reducible refine ⟨_, _, c1 _ _, ?_⟩
          conv => whnf
          with_reducible refine ⟨_, _, c2 _ _, ?_⟩
          conv => whnf
          (refine ⟨rfl, ?_⟩)
          conv => whnf
          (refine ⟨by kernel_rfl, ?_⟩)
          conv => whnf
          (with_reducible refine ⟨(5 : Nat), ?_, ?_⟩; · exact Nat.le_of_ble_eq_true rfl)
          conv => whnf
          with_reducible refine ⟨_, _, c3 _ _, ?_⟩
          conv => whnf
          cases z0 : a1 != Int.ofNat 0
          · conv => whnf
            with_reducible refine ⟨_, _, c4 _ _, ?_⟩
            conv => whnf
            cases z1 : a2 != Int.ofNat 0
            · conv => whnf
              with_reducible refine ⟨_, _, c5 _ _, ?_⟩
              conv => whnf
              cases z2 : e != Int.ofNat 0
              · exact Bool.noConfusion (Eq.trans (Eq.symm z2) hne)
              · conv => whnf
                rfl
            · exact Bool.noConfusion (Eq.trans (Eq.symm z1) q2)
          · exact Bool.noConfusion (Eq.trans (Eq.symm z0) q1)
        | false =>
          rw [q3, if_neg (fun h => Bool.noConfusion h)] at he
          subst he
          refine call_clean (fn := Try.f7) rfl Try.func7 rfl rfl rfl rfl rfl (Nat.le_of_ble_eq_true rfl) ?_
          conv => whnf
          with_reducible refine ⟨_, _, c1 _ _, ?_⟩
          conv => whnf
          with_reducible refine ⟨_, _, c2 _ _, ?_⟩
          conv => whnf
          (refine ⟨rfl, ?_⟩)
          conv => whnf
          (refine ⟨by kernel_rfl, ?_⟩)
          conv => whnf
          (with_reducible refine ⟨(5 : Nat), ?_, ?_⟩; · exact Nat.le_of_ble_eq_true rfl)
          conv => whnf
          with_reducible refine ⟨_, _, c3 _ _, ?_⟩
          conv => whnf
          cases z0 : a1 != Int.ofNat 0
          · conv => whnf
            with_reducible refine ⟨_, _, c4 _ _, ?_⟩
            conv => whnf
            cases z1 : a2 != Int.ofNat 0
            · conv => whnf
              with_reducible refine ⟨_, _, c5 _ _, ?_⟩
              conv => whnf
              cases z2 : a3 != Int.ofNat 0
              · conv => whnf
                with_reducible refine ⟨_, _, c6 _ _, ?_⟩
                conv => whnf
                cases z3 : e != Int.ofNat 0
                · exact Bool.noConfusion (Eq.trans (Eq.symm z3) hne)
                · conv => whnf
                  rfl
              · exact Bool.noConfusion (Eq.trans (Eq.symm z2) q3)
            · exact Bool.noConfusion (Eq.trans (Eq.symm z1) q2)
          · exact Bool.noConfusion (Eq.trans (Eq.symm z0) q1)
theorem set_gone (m : Nat) (from_ : FuncId) (h : H) (v : AV) (ns : List NodeS) (hv : nodesOk v ns) (gen n : Int) (c : CredS) (hc : c.ok) (s : SetS) (ss sn : Int) (bo : Nat → Int) (hn : thereS ns n = false) :
    evCall TE (m + 7) from_ (.fn 7 [] []) [.agg [v, .int .u32 gen], .int .i64 n, .agg [.int .u32 c.user, .int .u32 c.group, c.gs], .agg (setA s), worldA ss sn bo] h = some (.ret (.tup [.agg [.sl0, .int .u32 0], .int .u32 70]), h) := by
  have c1 : ∀ (f : FuncId) (h : H), (evAll TE (m + 6)).1 f (.fn 10 [] []) [.agg [v, .int .u32 gen], .int .i64 n] h = some (.ret (.tup [.agg attrs0, .bool false]), h) := fun f h => attrs_none (m + 4) f h v ns hv gen n hn
  obtain ⟨u, gr, gs, l⟩ := c
  obtain ⟨h1, h2⟩ := hc
  dsimp only at h1 h2
  obtain ⟨hm, mode, hu, user, hg, group, hs, size, rh, rs, rn, wh, ws, wn⟩ := s
  unfold setA worldA
  unfold attrs0 at c1
  dsimp only
  rcases h1 with ⟨rfl, rfl⟩ | ⟨tt, rfl⟩ <;> rcases hv with ⟨rfl, rfl⟩ | ⟨t, rfl⟩
  all_goals refine call_clean (fn := Try.f7) rfl Try.func7 rfl rfl rfl rfl rfl (Nat.le_of_ble_eq_true rfl) ?_
  all_goals
    conv => whnf
    with_reducible refine ⟨_, _, c1 _ _, ?_⟩
    conv => whnf
    rfl
theorem lives16_c (n : Nat) (from_ : FuncId) (h : H) : evCall TE (n + 40) from_ (.fn 6 [] []) [] h = some (.ret (.bool true), h) := by
  skip
  kernel_rfl
theorem great16_c (m : Nat) (x : SettingS) (hx : x.ok) : ∃ g, (g = false → x.t.ns.length ≤ 300) ∧ ∀ (f : FuncId) (h : H), evCall TE (m + 5) f (.fn 4 [] []) [settingA x] h = some (.ret (.bool g), h) := by
  obtain ⟨_, ⟨r, rfl, _, _⟩, hc⟩ := treeSize_c m x.t hx.t
  obtain ⟨g, hg⟩ : ∃ g, g = (decide (r > 40000) || (decide ((x.c.l.length : Int) > 3000) || decide ((x.t.ns.length : Int) > 300))) := ⟨_, rfl⟩
  refine ⟨g, fun h => ?_, fun f h => ?_⟩
  · rw [hg, Bool.or_eq_false_iff, Bool.or_eq_false_iff] at h
    have := of_decide_eq_false h.2.2
    omega
  · have c1 : ∀ (f : FuncId) (h : H), (evAll TE (m + 4)).1 f (.fn 11 [] []) [treeA x.t] h = some (.ret (.int .i64 r), h) := fun f h => hc f h
    have hv := hx.t.v
    have h1 := hx.c.1
    clear hx hc
    obtain ⟨⟨v, ns, gen⟩, n, ⟨u, gr, gs, l⟩, ⟨hm, mode, hu, user, hgg, group, hs, size, rh, rs, rn, wh, ws, wn⟩, ss, sn, bo⟩ := x
    unfold treeA at c1
    unfold settingA
    dsimp only at c1 hv h1 hg ⊢
    rcases h1 with ⟨rfl, rfl⟩ | ⟨tt, rfl⟩ <;> rcases hv with ⟨rfl, rfl⟩ | ⟨t, rfl⟩
    · refine call_clean (fn := Try.f4) rfl Try.func4 rfl rfl rfl rfl rfl (Nat.le_of_ble_eq_true rfl) ?_
      conv => whnf
      with_reducible refine ⟨_, _, c1 _ _, ?_⟩
      conv => whnf
      cases z0 : decide (r > Int.ofNat 40000)
      · conv => whnf
        (rw [hg]; simp_all; done)
      · conv => whnf
        (rw [hg]; simp_all; done)
    · refine call_clean (fn := Try.f4) rfl Try.func4 rfl rfl rfl rfl rfl (Nat.le_of_ble_eq_true rfl) ?_
      conv => whnf
      with_reducible refine ⟨_, _, c1 _ _, ?_⟩
      conv => whnf
      cases z0 : decide (r > Int.ofNat 40000)
      · conv => whnf
        (rw [hg]; simp_all; omega)
      · conv => whnf
        (rw [hg]; simp_all; done)
    · refine call_clean (fn := Try.f4) rfl Try.func4 rfl rfl rfl rfl rfl (Nat.le_of_ble_eq_true rfl) ?_
      conv => whnf
      with_reducible refine ⟨_, _, c1 _ _, ?_⟩
      conv => whnf
      cases z0 : decide (r > Int.ofNat 40000)
      · conv => whnf
        cases z1 : decide (↑l.length > Int.ofNat 3000)
        · conv => whnf
          (rw [hg]; simp_all; done)
        · conv => whnf
          (rw [hg]; simp_all; done)
      · conv => whnf
        (rw [hg]; simp_all; done)
    · refine call_clean (fn := Try.f4) rfl Try.func4 rfl rfl rfl rfl rfl (Nat.le_of_ble_eq_true rfl) ?_
      conv => whnf
      with_reducible refine ⟨_, _, c1 _ _, ?_⟩
      conv => whnf
      cases z0 : decide (r > Int.ofNat 40000)
      · conv => whnf
        cases z1 : decide (↑l.length > Int.ofNat 3000)
        · conv => whnf
          (rw [hg]; (try rw [show decide (r > 40000) = false from ‹_›]);   (try rw [show decide ((l.length : Int) > 3000) = false from ‹_›]); rfl)
        · conv => whnf
          (rw [hg]; simp_all; done)
      · conv => whnf
        (rw [hg]; simp_all; done)
end Go.Proofs.Ytlglhnadalbddaa.Ab
/- Over the engine: what is set again, in plain words. -/
namespace Go.Proofs.Ytlglhnadalbddaa.Ab
open Go Go.RowKit

set_option maxRecDepth 100000
theorem allSame_of {α : Type} {f : α → α → Bool} : ∀ {x y : List α}, x.length = y.length → (∀ (i : Nat) (a b : α), x[i]? = some a → y[i]? = some b → f a b = true) → allSame f x y = true
  | [], [], _, _ => rfl
  | [], _ :: _, h, _ => by simp at h
  | _ :: _, [], h, _ => by simp at h
  | a :: x, b :: y, hl, h => by
    rw [allSame, h 0 a b rfl rfl, allSame_of (by simpa using hl) fun i a b h1 h2 => h (i + 1) a b (by simpa using h1) (by simpa using h2)]
    rfl
theorem like_clone (y : NodeS) : likeN y (cloneN y) := ⟨rfl, rfl, rfl, rfl, rfl, rfl, rfl, rfl, rfl, rfl, rfl, rfl, rfl, rfl, rfl, rfl, rfl, rfl⟩
theorem setN_len (ns : List NodeS) (n : Int) (s : SetS) (ss sn : Int) (x : NodeS) : (setN ns n s ss sn x).length = ns.length := by unfold setN; rw [List.length_set, List.length_map]
theorem cloneN_fit {x : NodeS} (h : x.fit) : (cloneN x).fit := ⟨⟨bytesC_ok h.1.1, entsC_ok h.1.2⟩, h.2⟩
theorem deeds_fit (s : SetS) (ss sn : Int) (x : NodeS) (h : x.fit) (hsm : s.hs = true → s.size ≤ 65536) : (deeds s ss sn (.sl (numsA .u8 (sized x.bytes s.size.toNat)) s.size.toNat true) (cloneN x)).fit := by
  have h2 := cloneN_fit h
  refine ⟨⟨?_, ?_⟩, ?_, ?_⟩
  · rw [deeds_data, deeds_bytes]
    split
    · exact .inr ⟨true, by rw [show (cloneN x).bytes = x.bytes from rfl, sized_len]⟩
    · exact h2.1.1
  · rw [deeds_list, deeds_ents]
    exact h2.1.2
  · rw [deeds_bytes]
    split
    · rename_i hs
      have := hsm hs
      rw [sized_len]
      omega
    · exact h2.2.1
  · rw [deeds_ents]
    exact h2.2.2
section
variable (ns : List NodeS) (n : Int) (s : SetS) (ss sn : Int) (x : NodeS) (hok : ∀ x ∈ ns, x.fit) (hn : thereS ns n = true) (hx : ns[n.toNat]? = some x) (hsm : s.hs = true → s.size ≤ 65536)
include hx in
theorem setN_get : (setN ns n s ss sn x)[n.toNat]? = some (deeds s ss sn (.sl (numsA .u8 (sized x.bytes s.size.toNat)) s.size.toNat true) (cloneN x)) := by
  unfold setN
  obtain ⟨h1, _⟩ := List.getElem?_eq_some_iff.1 hx
  rw [List.getElem?_set_self (by rw [List.length_map]; exact h1)]
include hok hx hsm in
theorem setN_fit : ∀ y ∈ setN ns n s ss sn x, y.fit := by
  intro y hy
  rcases List.mem_or_eq_of_mem_set hy with h | rfl
  · obtain ⟨z, hz, rfl⟩ := List.mem_map.1 h
    exact cloneN_fit (hok z hz)
  · exact deeds_fit s ss sn x (hok x (List.mem_of_getElem? hx)) hsm
include hn hx in
theorem setN_there : thereS (setN ns n s ss sn x) n = true := by
  have hg := setN_get ns n s ss sn x hx
  unfold thereS kindS at *
  rw [hg, setN_len]
  rw [hx] at hn
  dsimp only at hn ⊢
  rw [deeds_kind]
  exact hn
theorem setN_twice : allSame nodeEq (setN ns n s ss sn x) (setN (setN ns n s ss sn x) n s ss sn (deeds s ss sn (.sl (numsA .u8 (sized x.bytes s.size.toNat)) s.size.toNat true) (cloneN x))) = true := by
  obtain ⟨y, hy⟩ : ∃ y, y = deeds s ss sn (.sl (numsA .u8 (sized x.bytes s.size.toNat)) s.size.toNat true) (cloneN x) := ⟨_, rfl⟩
  rw [← hy]
  refine allSame_of (by rw [setN_len (setN ns n s ss sn x)]) fun i a b ha hb => nodeEq_of ?_
  by_cases hi : i = n.toNat
  · subst hi
    have hlt : n.toNat < ns.length := by
      obtain ⟨h1, _⟩ := List.getElem?_eq_some_iff.1 ha
      rwa [setN_len] at h1
    unfold setN at ha hb
    rw [List.getElem?_set_self (by rw [List.length_map]; exact hlt)] at ha
    rw [List.getElem?_set_self (by rw [List.length_map, List.length_set, List.length_map]; exact hlt)] at hb
    cases ha
    cases hb
    exact deeds_twice s ss sn _ _ _ _ (by rw [hy]; exact like_clone _)
  · unfold setN at ha hb
    rw [List.getElem?_set_ne (fun h => hi h.symm)] at ha
    rw [List.getElem?_set_ne (fun h => hi h.symm), List.getElem?_map, List.getElem?_set_ne (fun h => hi h.symm), ha] at hb
    cases hb
    exact like_clone a
end
/-- Whoever owns all may do it again. -/
theorem root_owns (ns : List NodeS) (n : Int) (hn : thereS ns n = true) : ownsS ns n ⟨0, 0, .sl0, []⟩ = true := by
  unfold ownsS
  rw [hn]
  rfl
theorem root_owner (x : NodeS) (s : SetS) : ownerS x ⟨0, 0, .sl0, []⟩ s true = false := by
  unfold ownerS
  cases s.hm <;> cases s.hu <;> cases s.hg <;> rfl
theorem root_size (x y : NodeS) (s : SetS) (w : Bool) (hk : y.kind = x.kind) (h : sizeB x s w = 0) : sizeB y s true = 0 := by
  unfold sizeB at *
  rw [hk]
  cases h1 : s.hs <;> cases h2 : (x.kind == 2) <;> cases h3 : (x.kind == 5) <;> cases h4 : decide (s.size > 65536) <;> cases w <;> simp_all
theorem root_stamps (s : SetS) : stampsB s true true = 0 := by
  unfold stampsB
  cases (s.rh == 2) <;> cases (s.wh == 2) <;> cases (s.rh == 1) <;> cases (s.wh == 1) <;> rfl
theorem size_most (x : NodeS) (s : SetS) (w : Bool) (h : sizeB x s w = 0) : s.hs = true → s.size ≤ 65536 := by
  intro hs
  unfold sizeB at h
  cases h2 : (x.kind == 2) <;> cases h3 : (x.kind == 5) <;> cases h4 : decide (s.size > 65536) <;> simp_all
  all_goals omega
end Go.Proofs.Ytlglhnadalbddaa.Ab
/- Over the engine: the law GuardKeeps. -/
namespace Go.Proofs.Ytlglhnadalbddaa.Ab
open Go Go.RowKit

set_option maxRecDepth 100000
def weakA (x y : NodeS) (n : Int) : List AV := [.bool true, .int .u64 (IntKind.wrap .u64 (sizeS x)), .int .u32 x.ws, .int .u32 x.wn, .int .u32 x.ts, .int .u32 x.tn, .bool true] ++ attrsS y n
theorem weak_c (m : Nat) (from_ : FuncId) (h : H) (ns l : List NodeS) (t1 t2 : Bool) (g1 g2 n : Int) (x y : NodeS) (h1 : thereS ns n = true) (hx : ns[n.toNat]? = some x) (hxo : x.ok) (h2 : thereS l n = true) (hy : l[n.toNat]? = some y) (hyo : y.ok) :
    evCall TE (m + 3) from_ (.fn 9 [] []) [.agg [.sl (nodesA ns) ns.length t1, .int .u32 g1], .agg [.sl (nodesA l) l.length t2, .int .u32 g2], .int .i64 n] h = some (.ret (.agg (weakA x y n)), h) := by
  have c1 : ∀ (f : FuncId) (h : H), (evAll TE (m + 2)).1 f (.fn 10 [] []) [.agg [.sl (nodesA ns) ns.length t1, .int .u32 g1], .int .i64 n] h = some (.ret (.tup [.agg (attrsS x n), .bool true]), h) := fun f h => attrs_some m f h _ ns (.inr ⟨t1, rfl⟩) g1 n x h1 hx hxo
  have c2 : ∀ (f : FuncId) (h : H), (evAll TE (m + 2)).1 f (.fn 10 [] []) [.agg [.sl (nodesA l) l.length t2, .int .u32 g2], .int .i64 n] h = some (.ret (.tup [.agg (attrsS y n), .bool true]), h) := fun f h => attrs_some m f h _ l (.inr ⟨t2, rfl⟩) g2 n y h2 hy hyo
  unfold weakA
  unfold attrsS at c1 c2 ⊢
  generalize IntKind.wrap .u64 (sizeS x) = sx at c1 ⊢
  generalize IntKind.wrap .u64 (sizeS y) = sy at c2 ⊢
  refine call_clean (fn := Try.f9) rfl Try.func9 rfl rfl rfl rfl rfl (Nat.le_of_ble_eq_true rfl) ?_
  conv => whnf
  with_reducible refine ⟨_, _, c1 _ _, ?_⟩
  conv => whnf
  (refine ⟨by kernel_rfl, ?_⟩)
  conv => whnf
  with_reducible refine ⟨_, _, c2 _ _, ?_⟩
  conv => whnf
  rfl
theorem check_nil (m : Nat) (from_ : FuncId) (h : H) (tg : Int) : evCall TE (m + 12) from_ (.fn 5 [] []) [.agg [.sl0, .int .u32 tg]] h = some (.ret (.bool false), h) := by
  refine call_clean (fn := Try.f5) rfl Try.func5 rfl rfl rfl rfl rfl (Nat.le_of_ble_eq_true rfl) ?_
  conv => whnf
theorem keeps_great (m : Nat) (from_ : FuncId) (h : H) (x : SettingS) (hx : x.ok) (hG : ∀ (f : FuncId) (h : H), evCall TE (m + 59) f (.fn 4 [] []) [settingA x] h = some (.ret (.bool true), h)) : evCall TE (m + 60) from_ (.fn 3 [] []) [settingA x] h = some (.ret (.bool true), h) := by
  have cG : ∀ (f : FuncId) (h : H), (evAll TE (m + 59)).1 f (.fn 4 [] []) [settingA x] h = some (.ret (.bool true), h) := hG
  have cL : ∀ (f : FuncId) (h : H), (evAll TE (m + 59)).1 f (.fn 6 [] []) [] h = some (.ret (.bool true), h) := fun f h => lives16_c (m + 19) f h
  have hv := hx.t.v
  have h1 := hx.c.1
  clear hx
  obtain ⟨⟨v, ns, gen⟩, n, ⟨u, gr, gs, l⟩, ⟨hm, mode, hu, user, hgg, group, hs, size, rh, rs, rn, wh, ws, wn⟩, ss, sn, bo⟩ := x
  unfold settingA at cG ⊢
  dsimp only at cG hv h1 ⊢
  rcases h1 with ⟨rfl, rfl⟩ | ⟨tt, rfl⟩ <;> rcases hv with ⟨rfl, rfl⟩ | ⟨t, rfl⟩
  all_goals refine call_clean (fn := Try.f3) rfl Try.func3 rfl rfl rfl rfl rfl (Nat.le_of_ble_eq_true rfl) ?_
  all_goals
    conv => whnf
    with_reducible refine ⟨_, _, cG _ _, ?_⟩
    conv => whnf
    with_reducible refine ⟨_, _, cL _ _, ?_⟩
    conv => whnf
theorem keeps_none (m : Nat) (from_ : FuncId) (h : H) (x : SettingS) (hx : x.ok) (hG : ∀ (f : FuncId) (h : H), evCall TE (m + 59) f (.fn 4 [] []) [settingA x] h = some (.ret (.bool false), h)) (hK : ∀ (f : FuncId) (h : H), evCall TE (m + 59) f (.fn 5 [] []) [.agg [x.t.v, .int .u32 x.t.gen]] h = some (.ret (.bool false), h)) : evCall TE (m + 60) from_ (.fn 3 [] []) [settingA x] h = some (.ret (.bool true), h) := by
  have cG : ∀ (f : FuncId) (h : H), (evAll TE (m + 59)).1 f (.fn 4 [] []) [settingA x] h = some (.ret (.bool false), h) := hG
  have cK : ∀ (f : FuncId) (h : H), (evAll TE (m + 59)).1 f (.fn 5 [] []) [.agg [x.t.v, .int .u32 x.t.gen]] h = some (.ret (.bool false), h) := hK
  have cL : ∀ (f : FuncId) (h : H), (evAll TE (m + 59)).1 f (.fn 6 [] []) [] h = some (.ret (.bool true), h) := fun f h => lives16_c (m + 19) f h
  have hv := hx.t.v
  have h1 := hx.c.1
  clear hx
  obtain ⟨⟨v, ns, gen⟩, n, ⟨u, gr, gs, l⟩, ⟨hm, mode, hu, user, hgg, group, hs, size, rh, rs, rn, wh, ws, wn⟩, ss, sn, bo⟩ := x
  unfold settingA at cG ⊢
  dsimp only at cG cK hv h1 ⊢
  rcases h1 with ⟨rfl, rfl⟩ | ⟨tt, rfl⟩ <;> rcases hv with ⟨rfl, rfl⟩ | ⟨t, rfl⟩
  all_goals refine call_clean (fn := Try.f3) rfl Try.func3 rfl rfl rfl rfl rfl (Nat.le_of_ble_eq_true rfl) ?_
  all_goals
    conv => whnf
    with_reducible refine ⟨_, _, cG _ _, ?_⟩
    conv => whnf
    with_reducible refine ⟨_, _, cK _ _, ?_⟩
    conv => whnf
    with_reducible refine ⟨_, _, cL _ _, ?_⟩
    conv => whnf
theorem keeps_bad (m : Nat) (from_ : FuncId) (h : H) (x : SettingS) (hx : x.ok) (hG : ∀ (f : FuncId) (h : H), evCall TE (m + 59) f (.fn 4 [] []) [settingA x] h = some (.ret (.bool false), h)) (hK : ∀ (f : FuncId) (h : H), evCall TE (m + 59) f (.fn 5 [] []) [.agg [x.t.v, .int .u32 x.t.gen]] h = some (.ret (.bool true), h)) (e : Int) (he : (e != 0) = true) (hS : ∀ (f : FuncId) (h : H), evCall TE (m + 59) f (.fn 7 [] []) [.agg [x.t.v, .int .u32 x.t.gen], .int .i64 x.n, .agg [.int .u32 x.c.user, .int .u32 x.c.group, x.c.gs], .agg (setA x.s), worldA x.ss x.sn x.bo] h = some (.ret (.tup [.agg [.sl0, .int .u32 0], .int .u32 e]), h)) : evCall TE (m + 60) from_ (.fn 3 [] []) [settingA x] h = some (.ret (.bool true), h) := by
  have cG : ∀ (f : FuncId) (h : H), (evAll TE (m + 59)).1 f (.fn 4 [] []) [settingA x] h = some (.ret (.bool false), h) := hG
  have cK : ∀ (f : FuncId) (h : H), (evAll TE (m + 59)).1 f (.fn 5 [] []) [.agg [x.t.v, .int .u32 x.t.gen]] h = some (.ret (.bool true), h) := hK
  have cL : ∀ (f : FuncId) (h : H), (evAll TE (m + 59)).1 f (.fn 6 [] []) [] h = some (.ret (.bool true), h) := fun f h => lives16_c (m + 19) f h
  have cS : ∀ (f : FuncId) (h : H), (evAll TE (m + 59)).1 f (.fn 7 [] []) [.agg [x.t.v, .int .u32 x.t.gen], .int .i64 x.n, .agg [.int .u32 x.c.user, .int .u32 x.c.group, x.c.gs], .agg (setA x.s), worldA x.ss x.sn x.bo] h = some (.ret (.tup [.agg [.sl0, .int .u32 0], .int .u32 e]), h) := hS
  clear hG hS hK
  have hv := hx.t.v
  have h1 := hx.c.1
  clear hx
  obtain ⟨⟨v, ns, gen⟩, n, ⟨u, gr, gs, l⟩, ⟨hm, mode, hu, user, hgg, group, hs, size, rh, rs, rn, wh, ws, wn⟩, ss, sn, bo⟩ := x
  unfold settingA at cG ⊢
  unfold setA worldA at cS
  dsimp only at cG cK cS hv h1 ⊢
  rcases h1 with ⟨rfl, rfl⟩ | ⟨tt, rfl⟩ <;> rcases hv with ⟨rfl, rfl⟩ | ⟨t, rfl⟩
  all_goals refine call_clean (fn := Try.f3) rfl Try.func3 rfl rfl rfl rfl rfl (Nat.le_of_ble_eq_true rfl) ?_
  all_goals
    conv => whnf
    with_reducible refine ⟨_, _, cG _ _, ?_⟩
    conv => whnf
    with_reducible refine ⟨_, _, cK _ _, ?_⟩
    conv => whnf
    with_reducible refine ⟨_, _, cS _ _, ?_⟩
    conv => whnf
    ((with_reducible cases z0 : e != Int.ofNat 0) <;> try exact Bool.noConfusion (Eq.trans (Eq.symm z0) he))
    conv => whnf
    with_reducible refine ⟨_, _, cL _ _, ?_⟩
    conv => whnf
    rfl
set_option maxHeartbeats 8000000 in
theorem keeps_ok (m : Nat) (from_ : FuncId) (h : H) (x : SettingS) (hx : x.ok) (hG : ∀ (f : FuncId) (h : H), evCall TE (m + 59) f (.fn 4 [] []) [settingA x] h = some (.ret (.bool false), h)) (hK : ∀ (f : FuncId) (h : H), evCall TE (m + 59) f (.fn 5 [] []) [.agg [x.t.v, .int .u32 x.t.gen]] h = some (.ret (.bool true), h)) (t : Bool) (hxv : x.t.v = .sl (nodesA x.t.ns) x.t.ns.length t) (l1 : List NodeS) (hS : ∀ (f : FuncId) (h : H), evCall TE (m + 59) f (.fn 7 [] []) [.agg [x.t.v, .int .u32 x.t.gen], .int .i64 x.n, .agg [.int .u32 x.c.user, .int .u32 x.c.group, x.c.gs], .agg (setA x.s), worldA x.ss x.sn x.bo] h = some (.ret (.tup [.agg [.sl (nodesA l1) l1.length true, .int .u32 x.t.gen], .int .u32 0]), h))
    (hK2 : ∀ (f : FuncId) (h : H), evCall TE (m + 59) f (.fn 5 [] []) [.agg [.sl (nodesA l1) l1.length true, .int .u32 x.t.gen]] h = some (.ret (.bool true), h))
    (hl : l1.length = x.t.ns.length) (hle : l1.length ≤ 300) (hn0 : 0 ≤ x.n) (hsame : ∀ (i : Nat) (a b : NodeS), i ≠ x.n.toNat → l1[i]? = some a → x.t.ns[i]? = some b → ∀ (f : FuncId) (h : H), evCall TE (m + 59) f (.fn 8 [] []) [.agg (nodeA a), .agg (nodeA b)] h = some (.ret (.bool true), h))
    (hok1 : ∀ y ∈ l1, y.ok) (hok : ∀ y ∈ x.t.ns, y.ok) (ya yb : NodeS)
    (hW : ∀ (f : FuncId) (h : H), evCall TE (m + 59) f (.fn 9 [] []) [.agg [x.t.v, .int .u32 x.t.gen], .agg [.sl (nodesA l1) l1.length true, .int .u32 x.t.gen], .int .i64 x.n] h = some (.ret (.agg (weakA ya yb x.n)), h))
    (hA : ∀ (f : FuncId) (h : H), evCall TE (m + 59) f (.fn 10 [] []) [.agg [.sl (nodesA l1) l1.length true, .int .u32 x.t.gen], .int .i64 x.n] h = some (.ret (.tup [.agg (attrsS yb x.n), .bool true]), h)) : evCall TE (m + 60) from_ (.fn 3 [] []) [settingA x] h = some (.ret (.bool true), h) := by
  have cG : ∀ (f : FuncId) (h : H), (evAll TE (m + 59)).1 f (.fn 4 [] []) [settingA x] h = some (.ret (.bool false), h) := hG
  have cK : ∀ (f : FuncId) (h : H), (evAll TE (m + 59)).1 f (.fn 5 [] []) [.agg [x.t.v, .int .u32 x.t.gen]] h = some (.ret (.bool true), h) := hK
  have cL : ∀ (f : FuncId) (h : H), (evAll TE (m + 59)).1 f (.fn 6 [] []) [] h = some (.ret (.bool true), h) := fun f h => lives16_c (m + 19) f h
  have cS : ∀ (f : FuncId) (h : H), (evAll TE (m + 59)).1 f (.fn 7 [] []) [.agg [x.t.v, .int .u32 x.t.gen], .int .i64 x.n, .agg [.int .u32 x.c.user, .int .u32 x.c.group, x.c.gs], .agg (setA x.s), worldA x.ss x.sn x.bo] h = some (.ret (.tup [.agg [.sl (nodesA l1) l1.length true, .int .u32 x.t.gen], .int .u32 0]), h) := hS
  have cK2 : ∀ (f : FuncId) (h : H), (evAll TE (m + 59)).1 f (.fn 5 [] []) [.agg [.sl (nodesA l1) l1.length true, .int .u32 x.t.gen]] h = some (.ret (.bool true), h) := hK2
  have cW : ∀ (f : FuncId) (h : H), (evAll TE (m + 59)).1 f (.fn 9 [] []) [.agg [x.t.v, .int .u32 x.t.gen], .agg [.sl (nodesA l1) l1.length true, .int .u32 x.t.gen], .int .i64 x.n] h = some (.ret (.agg (weakA ya yb x.n)), h) := hW
  have cA : ∀ (f : FuncId) (h : H), (evAll TE (m + 59)).1 f (.fn 10 [] []) [.agg [.sl (nodesA l1) l1.length true, .int .u32 x.t.gen], .int .i64 x.n] h = some (.ret (.tup [.agg (attrsS yb x.n), .bool true]), h) := hA
  clear hG hS hK hK2 hW hA
  have h1 := hx.c.1
  clear hx
  obtain ⟨⟨v, ns, gen⟩, n, ⟨u, gr, gs, l⟩, ⟨hm, mode, hu, user, hgg, group, hs, size, rh, rs, rn, wh, ws, wn⟩, ss, sn, bo⟩ := x
  unfold settingA at cG ⊢
  unfold setA worldA at cS
  unfold weakA at cW
  unfold attrsS at cW cA
  dsimp only at cG cK cS cW cA hxv h1 hl hn0 hsame hok ⊢
  subst hxv
  generalize IntKind.wrap .u64 (sizeS ya) = sx at cW
  generalize IntKind.wrap .u64 (sizeS yb) = sy at cW cA
  generalize IntKind.wrap .u32 yb.links = yl at cW cA
  generalize IntKind.wrap .u64 n = wn' at cW cA
  have hne : ((l1.length : Int) != (ns.length : Int)) = false := by simp [hl]
  rcases h1 with ⟨rfl, rfl⟩ | ⟨tt, rfl⟩
  all_goals refine call_clean (fn := Try.f3) rfl Try.func3 rfl rfl rfl rfl rfl (Nat.le_of_ble_eq_true rfl) ?_
  all_goals
    conv => whnf
    with_reducible refine ⟨_, _, cG _ _, ?_⟩
    conv => whnf
    with_reducible refine ⟨_, _, cK _ _, ?_⟩
    conv => whnf
    with_reducible refine ⟨_, _, cS _ _, ?_⟩
    conv => whnf
    with_reducible refine ⟨_, _, cK2 _ _, ?_⟩
    conv => whnf
    ((with_reducible cases z0 : (↑l1.length : Int) != (↑ns.length : Int)) <;>     try exact Bool.noConfusion (Eq.trans (Eq.symm z0) hne))
    conv => whnf
  all_goals clear cG cK cS cK2
  all_goals refine ⟨l1.length + 1, by show l1.length + 1 ≤ 4611686018427387904; omega, ?_⟩
  all_goals refine rounds_at (fun s (i : Int) => ⟨RG.of 111 [(5, .int .i64 i), (3, .ref 1 0 0), (1, .ref 0 0 0)], s.h⟩) (fun i => 0 ≤ i ∧ i ≤ l1.length) (fun i => (l1.length - i).toNat) _ 0 ⟨by omega, by omega⟩ (by show ((l1.length : Int) - 0).toNat < l1.length + 1; omega) (by kernel_rfl) ?_
  all_goals intro i m' hI ih
  all_goals dsimp only at hI ih ⊢
  all_goals obtain ⟨hI0, hI1⟩ := hI
  all_goals conv => whnf
  all_goals cases hlt : decide (i < (l1.length : Int)) with
  | false =>
    clear ih hsame
    conv => whnf
    with_reducible refine ⟨_, _, cW _ _, ?_⟩
    conv => whnf
    with_reducible refine ⟨_, _, cA _ _, ?_⟩
    conv => whnf
    with_reducible   cases z0 :     yb.kind == yb.kind &&       (yb.mode == yb.mode &&         (yl == yl &&           (yb.user == yb.user &&             (yb.group == yb.group &&               (sy == sy &&                 (sy == sy &&                   (wn' == wn' &&                     (yb.rs == yb.rs &&                       (yb.rn == yb.rn &&                         (yb.ws == yb.ws && (yb.wn == yb.wn && (yb.ts == yb.ts && (yb.tn == yb.tn && true)))))))))))))
    · conv => whnf
      (simp_all; done)
    · conv => whnf
      with_reducible refine ⟨_, _, cL _ _, ?_⟩
      conv => whnf
      rfl
  | true =>
    have hlt := of_decide_eq_true hlt
    have hlt2 : i < (ns.length : Int) := by omega
    obtain ⟨x, hx⟩ : ∃ x, l1[i.toNat]? = some x := ⟨_, List.getElem?_eq_getElem (by omega)⟩
    obtain ⟨y, hy⟩ : ∃ y, ns[i.toNat]? = some y := ⟨_, List.getElem?_eq_getElem (by omega)⟩
    have hw : IntKind.wrap .i64 (i + 1) = i + 1 := wrap64 (by omega) (by omega)
    have hmu : (l1.length - IntKind.wrap .i64 (i + 1)).toNat < (l1.length - i).toNat := by rw [hw]; omega
    have hst : 0 ≤ IntKind.wrap .i64 (i + 1) ∧ IntKind.wrap .i64 (i + 1) ≤ l1.length := by rw [hw]; omega
    cases hin : (i != n) with
    | false =>
      conv => whnf
      ((with_reducible cases z0 : i != n) <;> try exact Bool.noConfusion (Eq.trans (Eq.symm z0) hin))
      conv => whnf
      (refine ⟨by kernel_rfl, ?_⟩)
      conv => whnf
      (exact ih (IntKind.wrap .i64 (i + 1)) _ hst hmu (by kernel_rfl))
    | true =>
      have hne2 : i.toNat ≠ n.toNat := by
        have : i ≠ n := by simpa [bne] using hin
        omega
      have c1 : ∀ (f : FuncId) (h : H), (evAll TE (m + 59)).1 f (.fn 8 [] []) [.agg (nodeA x), .agg (nodeA y)] h = some (.ret (.bool true), h) := hsame i.toNat x y hne2 hx hy
      have hc1 : i.toNat * 25 + 25 ≤ (nodesA l1).length := by rw [nodesA_len]; omega
      have hc2 : i.toNat * 25 + 25 ≤ (nodesA ns).length := by rw [nodesA_len]; omega
      have hd1 := nodesA_node hx
      have hd2 := nodesA_node hy
      unfold nodeA at c1
      have k1 := hok1 x (List.mem_of_getElem? hx)
      have k2 := hok y (List.mem_of_getElem? hy)
      obtain ⟨kd, ge, mo, us, ng, li, xrs, xrn, xws, xwn, ts, tn, da, by_, vf, ta, ls, es, pa, nx⟩ := x
      obtain ⟨kd', ge', mo', us', ng', li', xrs', xrn', xws', xwn', ts', tn', da', by', vf', ta', ls', es', pa', nx'⟩ := y
      simp only [NodeS.ok, rowOk, entsOk] at k1 k2
      obtain ⟨hd3, hd4⟩ := k1
      obtain ⟨hd5, hd6⟩ := k2
      dsimp only at c1
      rcases hd3 with ⟨rfl, rfl⟩ | ⟨dt, rfl⟩ <;> rcases hd4 with ⟨rfl, rfl⟩ | ⟨lt, rfl⟩ <;> rcases hd5 with ⟨rfl, rfl⟩ | ⟨dt', rfl⟩ <;> rcases hd6 with ⟨rfl, rfl⟩ | ⟨lt', rfl⟩
      all_goals
        conv => whnf
        ((with_reducible cases z0 : i != n) <;> try exact Bool.noConfusion (Eq.trans (Eq.symm z0) hin))
        conv => whnf
        (refine runK_ret (ev_indexSl (cells := nodesA l1) (sz := 25) rfl rfl rfl rfl hI0 hlt) ?_)
        conv => whnf
        (refine runK_ret (ev_loadVA (z := 25) rfl rfl rfl hc1 hd1) ?_)
        conv => whnf
        (refine runK_ret (ev_indexSl (cells := nodesA ns) (sz := 25) rfl rfl rfl rfl hI0 hlt2) ?_)
        conv => whnf
        (refine runK_ret (ev_loadVA (z := 25) rfl rfl rfl hc2 hd2) ?_)
        conv => whnf
        with_reducible refine ⟨_, _, c1 _ _, ?_⟩
        conv => whnf
        (refine ⟨by kernel_rfl, ?_⟩)
        conv => whnf
        (refine ⟨by kernel_rfl, ?_⟩)
        conv => whnf
        (exact ih (IntKind.wrap .i64 (i + 1)) _ hst hmu (by kernel_rfl))
theorem nodeEq_clone (y : NodeS) : nodeEq (cloneN y) y = true := nodeEq_of ⟨rfl, rfl, rfl, rfl, rfl, rfl, rfl, rfl, rfl, rfl, rfl, rfl, rfl, rfl, rfl, rfl, rfl, rfl⟩
/-- The law, abstractly. -/
theorem keeps_law (m : Nat) (from_ : FuncId) (h : H) (x : SettingS) (hx : x.ok) : evCall TE (m + 60) from_ (.fn 3 [] []) [settingA x] h = some (.ret (.bool true), h) := by
  obtain ⟨g, hg, hG⟩ := great16_c (m + 54) x hx
  cases g with
  | true => exact keeps_great m from_ h x hx hG
  | false =>
    have hlen := hg rfl
    have hfit : ∀ y ∈ x.t.ns, y.fit := fun y hy => ⟨(hx.t.ns y hy).1, (hx.t.ns y hy).2.bytesL, (hx.t.ns y hy).2.entsL⟩
    rcases hx.t.v with ⟨hnil, hnil2⟩ | ⟨t, hxv⟩
    · exact keeps_none m from_ h x hx hG fun f h => by
        rw [hnil]
        exact check_nil (m + 47) f h x.t.gen
    have hKc := fun (f : FuncId) (h : H) => check_c (m + 47) f h x.t.ns t x.t.gen (fun y hy => ⟨(hx.t.ns y hy).1, (hx.t.ns y hy).2.few⟩) hx.t.len
    rw [← hxv] at hKc
    cases hck : checkS x.t.ns x.t.gen with
    | false =>
      rw [hck] at hKc
      exact keeps_none m from_ h x hx hG hKc
    | true =>
      rw [hck] at hKc
      cases hn : thereS x.t.ns x.n with
      | false => exact keeps_bad m from_ h x hx hG hKc 70 rfl fun f h => set_gone (m + 52) f h x.t.v x.t.ns hx.t.v x.t.gen x.n x.c hx.c x.s x.ss x.sn x.bo hn
      | true =>
        obtain ⟨y, hy⟩ : ∃ y, x.t.ns[x.n.toNat]? = some y := by
          unfold thereS at hn
          simp only [Bool.and_eq_true, decide_eq_true_eq] at hn
          exact ⟨_, List.getElem?_eq_getElem (by omega)⟩
        have hn0 : 0 ≤ x.n := by
          unfold thereS at hn
          simp only [Bool.and_eq_true, decide_eq_true_eq] at hn
          omega
        obtain ⟨a1, ha1⟩ : ∃ a, a = formS x.s x.sn := ⟨_, rfl⟩
        obtain ⟨a2, ha2⟩ : ∃ a, a = (if ownerS y x.c x.s (ownsS x.t.ns x.n x.c) = true then (1 : Int) else 0) := ⟨_, rfl⟩
        obtain ⟨a3, ha3⟩ : ∃ a, a = sizeB y x.s (ownsS x.t.ns x.n x.c || mayX y x.c 2) := ⟨_, rfl⟩
        obtain ⟨a4, ha4⟩ : ∃ a, a = stampsB x.s (ownsS x.t.ns x.n x.c) (ownsS x.t.ns x.n x.c || mayX y x.c 2) := ⟨_, rfl⟩
        cases hc : (code4 a1 a2 a3 a4 != 0) with
        | true =>
          refine keeps_bad m from_ h x hx hG hKc (code4 a1 a2 a3 a4) hc fun f h => ?_
          rw [hxv]
          exact set_bad (m + 52) f h x.t.ns t x.t.gen x.n x.c hx.c x.s x.ss x.sn x.bo hfit hn y hy hlen _ (by rw [ha1, ha2, ha3, ha4]) hc
        | false =>
          have hz : a1 = 0 ∧ a2 = 0 ∧ a3 = 0 ∧ a4 = 0 := by
            unfold code4 at hc
            cases q1 : (a1 != 0) <;> cases q2 : (a2 != 0) <;> cases q3 : (a3 != 0) <;> simp_all
          obtain ⟨z1, z2, z3, z4⟩ := hz
          rw [z1] at ha1
          rw [z2] at ha2
          rw [z3] at ha3
          rw [z4] at ha4
          have e2 : ownerS y x.c x.s (ownsS x.t.ns x.n x.c) = false := by
            cases q : ownerS y x.c x.s (ownsS x.t.ns x.n x.c) with
            | false => rfl
            | true => rw [q] at ha2; simp at ha2
          have hsm := size_most y x.s _ ha3.symm
          have hs1 := fun (f : FuncId) (h : H) => set_ok (m + 52) f h x.t.ns t x.t.gen x.n x.c hx.c x.s x.ss x.sn x.bo hfit hn y hy hlen hx.size.1 hsm ha1.symm e2 ha3.symm ha4.symm
          have hg2 := setN_get x.t.ns x.n x.s x.ss x.sn y hy
          have ht2 := setN_there x.t.ns x.n x.s x.ss x.sn y hn hy
          have hf2 := setN_fit x.t.ns x.n x.s x.ss x.sn y hfit hy hsm
          have hl2 := setN_len x.t.ns x.n x.s x.ss x.sn y
          have hc2 := setN_check (s := x.s) (ss := x.ss) (sn := x.sn) hck hn hy ha1.symm ha3.symm hx.size.1
          have hfew : ∀ z ∈ setN x.t.ns x.n x.s x.ss x.sn y, z.ok ∧ z.few := by
            intro z hz
            refine ⟨(hf2 z hz).1, ?_⟩
            rcases List.mem_or_eq_of_mem_set hz with h | rfl
            · obtain ⟨u, hu, rfl⟩ := List.mem_map.1 h
              have := (hx.t.ns u hu).2.few
              exact ⟨this.target, this.ents, this.entsL⟩
            · have := (hx.t.ns y (List.mem_of_getElem? hy)).2.few
              exact ⟨by rw [deeds_target]; exact this.target, by rw [deeds_ents]; exact this.ents, by rw [deeds_ents]; exact this.entsL⟩
          obtain ⟨z, hz⟩ : ∃ z, z = deeds x.s x.ss x.sn (.sl (numsA .u8 (sized y.bytes x.s.size.toNat)) x.s.size.toNat true) (cloneN y) := ⟨_, rfl⟩
          rw [← hz] at hg2
          have hzo : z.ok := (hf2 z (List.mem_of_getElem? hg2)).1
          refine keeps_ok m from_ h x hx hG hKc t hxv (setN x.t.ns x.n x.s x.ss x.sn y) (fun f h => ?_) (fun f h => ?_) hl2 (by rw [hl2]; exact hlen) hn0 (fun i a b hi ha hb f h => ?_) (fun u hu => (hf2 u hu).1) (fun u hu => (hfit u hu).1) y z (fun f h => ?_) (fun f h => ?_)
          · rw [hxv, hl2]
            exact hs1 f h
          · have := check_c (m + 47) f h (setN x.t.ns x.n x.s x.ss x.sn y) true x.t.gen hfew (by rw [hl2]; exact hx.t.len)
            rw [hc2] at this
            exact this
          · have hb2 := setN_other (s := x.s) (ss := x.ss) (sn := x.sn) (x := y) hi hb
            rw [ha] at hb2
            cases hb2
            have := sameNode_c (m + 57) f h (cloneN b) b (hf2 _ (List.mem_of_getElem? ha)).1 (hfit b (List.mem_of_getElem? hb)).1 (hfit b (List.mem_of_getElem? hb)).2.1 (by have := (hfit b (List.mem_of_getElem? hb)).2.2; show b.ents.length ≤ _; omega)
            rw [nodeEq_clone] at this
            exact this
          · rw [hxv]
            exact weak_c (m + 56) f h x.t.ns _ t true x.t.gen x.t.gen x.n y z hn hy (hfit y (List.mem_of_getElem? hy)).1 ht2 hg2 hzo
          · exact attrs_some (m + 57) f h _ _ (.inr ⟨true, rfl⟩) x.t.gen x.n z ht2 hg2 hzo
end Go.Proofs.Ytlglhnadalbddaa.Ab
