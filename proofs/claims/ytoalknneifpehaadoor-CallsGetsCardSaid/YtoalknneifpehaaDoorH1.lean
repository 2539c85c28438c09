import Derived.RangeFuncBox
import Derived.RangeFuncNested
import Derived.RangeFuncLeaves
import Derived.Shelf.Abstract
import Derived.WalkKit
import Derived.OwnWalkIn
import Derived.TacticsInMore
import Derived.LoopNIn
import Derived.LoopIn
import Derived.Maps.AppendAt
import Derived.Outline
import Derived.Test.YtoalknneifpehaaDoorProg
namespace Go.Proofs.YtoalknneifpehaaDoor.Hand
open Go.RowKit Go.Shelf

attribute [local go_sem] Oper.semAt_some

/-- The bytes of a number, the highest first. -/
def beL (n : Int) (m : Nat) : List Int := (List.range m).map fun j => n / 2 ^ (8 * (m - 1 - j)) % 256

/-- Two blocks lie as they lay. -/
def Two (a b : Nat) (W W' : World) : Prop := W'.heap[a]? = W.heap[a]? ∧ W'.heap[b]? = W.heap[b]?
theorem Two.refl (a b : Nat) (W : World) : Two a b W W := ⟨rfl, rfl⟩
theorem Two.trans {a b : Nat} {A B C : World} (h : Two a b A B) (k : Two a b B C) : Two a b A C := ⟨k.1.trans h.1, k.2.trans h.2⟩
theorem Two.put {a b : Nat} (W : World) (l : Nat) (o' : Obj) (ha : a < l) (hb : b < l) : Two a b W (W.putObj l o') := ⟨World.putObj_heap_other (by omega), World.putObj_heap_other (by omega)⟩
theorem beL_length (x : Int) (m : Nat) : (beL x m).length = m := by simp [beL]
theorem beL_succ (x : Int) (m k : Nat) (h : k < m) : (beL x m).take (k + 1) = (beL x m).take k ++ [x / 2 ^ (8 * (m - 1 - k)) % 256] := by
  rw [List.take_succ_eq_append_getElem (by simp [beL]; omega)]
  simp [beL]

set_option maxRecDepth 100000 in
set_option maxHeartbeats 1000000 in
theorem bytes1_in (F : Fence) (n : Nat) (hf : F.fn 107) (hro : F.round = none) (hn : 1 ≤ n) (l Bm Bn : Nat) (x : Int) (m : Nat) (hm : m ≤ 8) (J Jx : List Int → World → Prop)
    (hY : ∀ pre y W, J pre W → pre.length < m → YieldAt F (n - 1) Tryd.prog l #[.int .u8 y] W fun e W' =>
      (e = .returned (.bool true) ∧ J (pre ++ [y]) W' ∧ Two Bm Bn W W') ∨ (e = .returned (.bool false) ∧ Jx (pre ++ [y]) W'))
    (W : World) (hBm : W.cell? ⟨Bm, 0, none⟩ = some (.int .i64 m)) (hBn : W.cell? ⟨Bn, 0, none⟩ = some (.int .u64 x)) (h0 : J [] W) :
    CallsIn F n Tryd.prog 107 #[.func (.yield l) #[] #[], .pointer (some ⟨Bm, 0, none⟩), .pointer (some ⟨Bn, 0, none⟩)] W fun e W' => (∃ v, e = .returned v) ∧
      ((∃ ys, ys = beL x m ∧ J ys W') ∨ (∃ pre, pre <+: beL x m ∧ Jx pre W')) := by
  refine callsIn_of_wp Tryd.func107 rfl hf ?_ hro
  simp only [Tryd.ntmps107, List.size_toArray, List.length_cons, List.length_nil, Nat.reduceAdd, Nat.reduceSub, Array.replicate_succ, Array.replicate_zero, List.push_toArray, List.append_toArray, List.nil_append, List.cons_append]
  gi_wp2
  gi_loopw [4] (fun p wr => ∃ (k : Nat), k ≤ m ∧ p = .int .i64 ((m : Int) - 1 - k) ∧ J ((beL x m).take k) wr ∧ Two Bm Bn W wr)
    (fun p wr => (intOf p + 1).toNat)
  case atStart =>
    exact ⟨0, by omega, by simp, by simpa using h0, Two.refl _ _ _⟩
  case round =>
    obtain ⟨k, hk, rfl, hJs, hB⟩ := hrel
    have hBm' := (World.cell?_of_block (a := ⟨Bm, 0, none⟩) hB.1).trans hBm
    have hBn' := (World.cell?_of_block (a := ⟨Bn, 0, none⟩) hB.2).trans hBn
    by_cases hlt : k < m
    · have h1 : decide (0 ≤ (m : Int) - 1 - k) = true := by simp; omega
      have hlen : ((beL x m).take k).length < m := by simp [beL]; omega
      obtain ⟨fn, tmps, assign, body, hy, hR⟩ := hY _ (x / 2 ^ (8 * (m - 1 - k)) % 256) wr hJs hlen
      gi_wp2
      refine hR.mono ?_
      rintro e W' (⟨rfl, hJ', hk'⟩ | ⟨rfl, hJx'⟩)
      · gi_wp2
        go_roundw
        case rel => exact ⟨k + 1, by omega, by go_num, by rw [beL_succ x m k hlt]; exact hJ', hB.trans hk'⟩
        case measure => simp [intOf]; omega
      · gi_wp2
        refine bodyPost_ret (results_none rfl _ _ _) rfl ?_
        exact ⟨⟨_, rfl⟩, .inr ⟨_, by rw [← beL_succ x m k hlt]; exact List.take_prefix _ _, hJx'⟩⟩
    · have h1 : decide (0 ≤ (m : Int) - 1 - k) = false := by simp; omega
      obtain rfl : k = m := by omega
      gi_wp2
      go_end0
      exact ⟨⟨_, rfl⟩, .inl ⟨_, rfl, by rw [List.take_of_length_le (by simp [beL])] at hJs; exact hJs⟩⟩

set_option maxHeartbeats 1000000 in
theorem bytes_in (F : Fence) (n : Nat) (hf : F.fn 98) (hro : F.round = none) (x : Int) (m : Nat) (w : World) :
    CallsIn F n Tryd.prog 98 #[.int .u64 x, .int .i64 m] w fun e w' => e = .returned (.func (.func 107) #[] #[.pointer (some ⟨w.heap.size + 1, 0, none⟩), .pointer (some ⟨w.heap.size, 0, none⟩)]) ∧
      w' = (w.alloc (.cells #[.int .u64 x] 75)).alloc (.cells #[.int .i64 m] 3) := by
  refine callsIn_of_wp Tryd.func98 rfl hf ?_ hro
  simp only [Tryd.ntmps98, List.size_toArray, List.length_cons, List.length_nil, Nat.reduceAdd, Nat.reduceSub, Array.replicate_succ, Array.replicate_zero, List.push_toArray, List.append_toArray, List.nil_append, List.cons_append]
  gi_wp2
  go_ret
  exact ⟨rfl, rfl⟩

theorem bytes_stops (F : Fence) (n : Nat) (hf : F.fn 107) (hro : F.round = none) (hn : 1 ≤ n) (Bm Bn : Nat) (x : Int) (m : Nat) (hm : m ≤ 8) (w : World) (hm0 : Bm < w.heap.size) (hn0 : Bn < w.heap.size)
    (hBm : w.cell? ⟨Bm, 0, none⟩ = some (.int .i64 m)) (hBn : w.cell? ⟨Bn, 0, none⟩ = some (.int .u64 x)) :
    SeqStopsK F n Tryd.prog 107 #[.pointer (some ⟨Bm, 0, none⟩), .pointer (some ⟨Bn, 0, none⟩)] (fun y : Int => #[Value.int .u8 y]) (Two Bm Bn) (fun ys => ys = beL x m) (fun pre => pre <+: beL x m) m w := fun l J Jx W hW _ _ hY h0 =>
  bytes1_in F n hf hro hn l Bm Bn x m hm J Jx hY W ((hW.cell (p := ⟨Bm, 0, none⟩) hm0).trans hBm) ((hW.cell (p := ⟨Bn, 0, none⟩) hn0).trans hBn) h0

theorem infoB : (Tryd.prog.info? 5).map (fun i => (i.zero, i.size, i.bytes)) = some (some (.int .u8 0), 1, 1) := by kernel_rfl

set_option maxRecDepth 100000 in
set_option maxHeartbeats 2000000 in
theorem put_in (F : Fence) (n : Nat) (h3 : F.fn 62) (h4 : F.fn 98) (h5 : F.fn 107) (hro : F.round = none) (hn : 3 ≤ n) (x : Int) (m : Nat) (hm : m ≤ 8) (w : World) :
    CallsIn F n Tryd.prog 62 #[.int .u64 x, .int .i64 m] w fun e W' => ∃ v, e = .returned v ∧ W'.ownsRow w.heap.size 5 1 v (beL x m).length ((beL x m).map (Value.int .u8)) ∧ Below w.heap.size w W' := by
  have h1 : 1 ≤ n := by omega
  obtain ⟨i0, hi, hz0, hz1, hz2⟩ := info_parts infoB
  refine callsIn_of_wp_marks Tryd.func62 rfl h3 ?_ hro
  simp only [Tryd.ntmps62, List.size_toArray, List.length_cons, List.length_nil, Nat.reduceAdd, Nat.reduceSub, Array.replicate_succ, Array.replicate_zero, List.push_toArray, List.append_toArray, List.nil_append, List.cons_append]
  gi_wp2_with (gi_at_call 98; refine (bytes_in F (n - 1) h4 hro _ _ _).mono ?_; rintro e w' ⟨rfl, rfl⟩)
  have bO := Boxed.new w 26 (.slice none 0 0)
  have bN := Boxed.new (w.alloc (.cells #[.slice none 0 0] 26)) 75 (.int .u64 x)
  have bM := Boxed.new ((w.alloc (.cells #[.slice none 0 0] 26)).alloc (.cells #[.int .u64 x] 75)) 3 (.int .i64 m)
  rw [World.size_alloc] at bN
  rw [World.size_alloc, World.size_alloc] at bM
  have hB0 : Below w.heap.size w (((w.alloc (.cells #[.slice none 0 0] 26)).alloc (.cells #[.int .u64 x] 75)).alloc (.cells #[.int .i64 m] 3)) := (((Below.refl _ w).alloc (Nat.le_refl _) _).alloc (by simp) _).alloc (by simp; omega) _
  refine wpIn_rangeFunc_ownG hro h1 (gf := 107) (lb := #[.pointer (some ⟨w.heap.size + 1 + 1, 0, none⟩), .pointer (some ⟨w.heap.size + 1, 0, none⟩)]) rfl h5 (enters_of Tryd.func107 (by kernel_rfl) rfl)
    (bytes_stops F (n - 1) h5 hro (by omega) (w.heap.size + 1 + 1) (w.heap.size + 1) x m hm _ (by simp) (by simp) bM.cell (bN.alloc _).cell) Two.trans (fun W l o o' hl _ _ _ => Two.put W l o' (by simp at hl; omega) (by simp at hl; omega)) (Below.refl _ _) (fun _ => rfl)
    (fun pre W => (∃ v, Boxed W w.heap.size 26 v ∧ W.ownsRow w.heap.size 5 1 v pre.length (pre.map (Value.int .u8)) ∧ (v = .slice none 0 0 ↔ pre = [])) ∧ (Below w.heap.size w W ∧ (Boxed W (w.heap.size + 1 + 1) 3 (.int .i64 m) ∧ Boxed W (w.heap.size + 1) 75 (.int .u64 x))))
    (fun _ _ _ => False)
    (OwnFrom.and (Own.from (holdsRow_own w.heap.size w.heap.size 26 5 1 (fun pre => pre.length) (fun pre => pre.map (Value.int .u8)) (fun pre v => v = .slice none 0 0 ↔ pre = [])) _) (OwnFrom.and (ownFrom_below (Nat.le_refl _) (by simp; omega)) (OwnFrom.and (Own.from (boxed_own _ _ _) _) (Own.from (boxed_own _ _ _) _))))
    (fun _ _ _ _ _ hs _ _ => hs)
    ⟨⟨_, (bO.alloc _).alloc _, World.ownsRow_nil _ _ _ _, by simp⟩, hB0, bM, bN.alloc _⟩
    (fun y => { tmps := #[.int .u64 x, .int .i64 m, undef, undef, .pointer (some ⟨w.heap.size, 0, none⟩), .int .u8 y, .int .u64 x, .int .i64 m, .func (.func 107) #[] #[.pointer (some ⟨w.heap.size + 1 + 1, 0, none⟩), .pointer (some ⟨w.heap.size + 1, 0, none⟩)], .int .u8 y, undef, undef, undef, undef, undef], defers := [] }) ?assign ?body ?done ?stop
  case assign =>
    intro l y W K hK
    gi_wp2
    exact hK
  case body =>
    rintro l pre y W ⟨⟨v, hv, hrow, hnil⟩, hB, cM, cN⟩ hlt
    have hc := hv.cell
    gi_wp2_with (gi_at_builtin; refine wpListIn_append_own _ rfl _ _ 26 rfl w.heap.size 5 i0 (.int .u8 0) 1 1 Tryd.underlying26 hi hz0 hz1 hz2 rfl (by decide) _ _ _ rfl (hrow.alloc _) ⟨W.heap.size, 0, none⟩ 1 1 [.int .u8 y] rfl rfl (cell_one_new _ _ _) (by simp [Value.oneCell']) (by simp [maxLen]; omega) (by omega) (by have := hB.size; simp; omega) ?_; intro v' w1 hown' hgrow _; obtain ⟨g', cap', rfl⟩ := ownsRow_succ hown'; obtain ⟨hv1, hv2, hr2, hk2, hb2⟩ := hv.appended (by decide) hrow hB.size (Nat.le_refl _) hown' hgrow; have hc1 := hv1.cell; have hf1 := hv1.frozen)
    have dM := ((cM.alloc _).kept hgrow (cM.not_row (by decide) hrow)).other (B' := w.heap.size) (by omega) (Value.slice (some ⟨g', 0, none⟩) (pre.length + 1) cap')
    have dN := ((cN.alloc _).kept hgrow (cN.not_row (by decide) hrow)).other (B' := w.heap.size) (by omega) (Value.slice (some ⟨g', 0, none⟩) (pre.length + 1) cap')
    exact ⟨hk2.from _, ⟨Eq.trans dM (Eq.symm cM), Eq.trans dN (Eq.symm cN)⟩, ⟨_, hv2, by simpa using hr2, by simp⟩, hB.trans hb2, dM, dN⟩
  case done =>
    rintro D ys W hD rfl ⟨⟨v, hv, hrow, hnil⟩, hB, _, _⟩ hK
    obtain ⟨A, c, rfl⟩ : ∃ A c, v = .slice A (beL x m).length c := by
      rcases hrow.2 with ⟨rfl, h0⟩ | ⟨g, cap, cur, rfl, _⟩
      · exact ⟨none, 0, by rw [h0]⟩
      · exact ⟨_, _, rfl⟩
    have hc := hv.cell
    have hfz := hv.frozen
    have hDs : w.heap.size < D := by simp at hD; omega
    gi_wp2
    have hK' : (W.setCell ⟨w.heap.size, 0, none⟩ (.slice A (beL x m).length c)).heap[D]? = some (.deferred (some [])) := (Below.heap_setCell _ _ _ _ (by show D ≠ w.heap.size; omega)).trans hK
    refine ⟨by simp, .inl ⟨_, _, rfl, run_takeDeferred hK', ?_⟩⟩
    have hv2 := hv.set (.slice A (beL x m).length c)
    have hrow2 := hrow.kept (grownBy_setCell' W w.heap.size (.slice A (beL x m).length c)) (.inr (hv.not_row (by decide) hrow).symm)
    have hv3 : Boxed ((W.setCell ⟨w.heap.size, 0, none⟩ (.slice A (beL x m).length c)).putObj D (.deferred none)) w.heap.size 26 (.slice A (beL x m).length c) := hv2.kept (grownBy_putObj' _ D _) (by intro e; injection e with e; omega)
    have hc3 := hv3.cell
    refine ⟨.slice A (beL x m).length c, ?res, .slice A (beL x m).length c, rfl, ownsRow_putObj hrow2 _ hK' rfl, ?bel⟩
    case bel => exact (hB.setCell (p := ⟨w.heap.size, 0, none⟩) (Nat.le_refl _) _).trans (belowK_b (w := w) (Nat.le_refl _) _ D _ _ (by omega) hK' rfl rfl)
    case res => simp [results, Tryd.results62, go_sem, hc3]
  case stop =>
    rintro D c pre W _ _ h _
    exact h.elim
end Go.Proofs.YtoalknneifpehaaDoor.Hand
