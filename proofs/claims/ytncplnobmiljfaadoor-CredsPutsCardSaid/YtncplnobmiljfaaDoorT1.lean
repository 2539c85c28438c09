import Derived.Test.YtncplnobmiljfaaDoorQ03
import Derived.Laws.MakeOwn
namespace Go.Proofs.YtncplnobmiljfaaDoor.Hand
open Go.RowKit Go.Proofs.YtncplnobmiljfaaDoorW.PrintWords Go.Proofs.YtncplnobmiljfaaDoorW.PrintLast Go.Proofs.YtncplnobmiljfaaDoorW.PrintMore
set_option linter.unusedVariables false
set_option linter.unusedSimpArgs false

theorem info_t32q : (Tryd.prog.info? 26).map (fun i => (i.zero, i.size, i.bytes)) = some (some (.int .u32 0), 1, 4) := by kernel_rfl
set_option maxHeartbeats 4000000 in
set_option maxRecDepth 100000 in
theorem twinBytes_calls (A : Option Addr) (c : Nat) (l : List Int) (w : World) (hR : Kd.C (Kd.int .u8) w A l.length l) (hc : l.length ≤ c) (hl : l.length ≤ 2000000) :
    Calls Tryd.prog 23 #[.slice A l.length c] w fun e w' => ∃ A' c', e = .returned (.slice A' l.length c') ∧ l.length < c' ∧ Kd.R (Kd.int .u8) 5 w' w.heap.size (fun _ => True) (.slice A' (l.length + 1) c') (l ++ [77]) ∧ Below w.heap.size w w' := by
  have HR := Aside0.mk hR
  have HC := Aside0.mk hc
  have HL := Aside0.mk hl
  obtain ⟨i, hi, hz0, hz1, hz2⟩ : ∃ i, Tryd.prog.info? 5 = some i ∧ i.zero = some (.int .u8 0) ∧ i.size = 1 ∧ i.bytes = 1 := by
    obtain ⟨i, hi, h2⟩ := Option.map_eq_some_iff.1 infoB
    simp only [Prod.mk.injEq] at h2
    exact ⟨i, hi, h2⟩
  obtain ⟨wm, hmk, hown, hgr⟩ := run_make_own (P := Tryd.prog) w w.heap.size 23 5 i (.int .u8 0) 1 Tryd.underlying23 hi hz0 hz1 .i64 .i64 (l.length + 1) (by rw [hz2]; omega) (by simp [maxLen]; omega) (Nat.le_refl _)
  have hmk' : (Instr.makeSlice 23 (.int .i64 0) (.int .i64 (wrap64 ((l.length : Int) + 1)))).run Tryd.prog w = .ok (.slice (some ⟨w.heap.size, 0, none⟩) 0 (l.length + 1)) wm := by
    have := hmk
    rw [wrap_in (by omega) (by omega)]
    rwa [show ((l.length + 1 : Nat) : Int) = (l.length : Int) + 1 by omega] at this
  have ho0 : Kd.R (Kd.int .u8) 5 wm w.heap.size (fun _ => True) (.slice (some ⟨w.heap.size, 0, none⟩) 0 (l.length + 1)) [] := Kd.R_of_own (enc := Value.int .u8) (h1 := fun _ => rfl) hown (fun _ _ => trivial)
  have hb0 : Below w.heap.size w wm := pw_below_grown (Below.refl _ _) none (Nat.le_refl _) hgr (fun _ h => by cases h)
  have HO := Aside0.mk ho0
  have HB := Aside0.mk hb0
  clear hR hc hl hi hz0 hz1 hz2 hmk hown hgr ho0 hb0
  go_enter Tryd.func23, Tryd.ntmps23
  go_wp2_with fail
  go_loopw [3, 4] (fun v3 v4 wr => ∃ k : Nat, k ≤ l.length ∧ v4 = .int .i64 k ∧ Kd.R (Kd.int .u8) 5 wr w.heap.size (fun _ => True) v3 (l.take k) ∧ Below w.heap.size w wr) (fun _ v4 _ => l.length - (intOf v4).toNat)
  case atStart => exact ⟨0, Nat.zero_le _, rfl, by rw [List.take_zero]; exact HO.out, HB.out⟩
  case round =>
    clear HO HB
    obtain ⟨k, hk, rfl, ho, hb⟩ := hrel
    obtain ⟨y, hy⟩ : ∃ y, y = l.take k := ⟨_, rfl⟩
    rw [← hy] at ho
    have hyl : y.length = k := by rw [hy, List.length_take]; omega
    obtain ⟨A3, c3, rfl, hc3, _⟩ := Kd.R_reads ho
    have HO := Aside0.mk ho
    have HB := Aside0.mk hb
    have hl2 := HL.out
    clear ho hb
    by_cases hlt : k < l.length
    · obtain ⟨ad, rfl, hcell⟩ := Kd.at_int (Kd.C_below HR.out HB.out) (k : Int) (by omega) (by omega)
      have hrd : rd l (k : Int) = l[k] := by unfold rd; rw [Int.toNat_natCast, List.getD_eq_getElem?_getD, List.getElem?_eq_getElem hlt]; rfl
      rw [hrd, Int.toNat_natCast] at hcell
      have HS := Aside0.mk (show l.take (k + 1) = y ++ [l[k]] by rw [hy]; exact List.take_succ_eq_append_getElem hlt)
      have HTL := Aside0.mk (show (y.length + 1) * 1 ≤ 140737488355328 by omega)
      clear hy hyl
      go_wp2_with (at_builtin; refine Kd.R_append (Kd.int .u8) (w0 := w) w.heap.size rfl _ _ 23 5 (.int .u8 0) 1 rfl Tryd.underlying23 infoB rfl (by decide) (by decide) (.slice A3 y.length c3) y l[k] [.int .u8 l[k]] (fun _ => True) (fun _ => False) (by rfl) (by rfl) rfl (fun _ h => h.elim) (fun _ _ => trivial) HO.out HB.out HB.out.size HTL.out ?_; intro v1 w1 ho1 hb1 hg1 hat1; rw [← HS.out] at ho1; obtain ⟨A1, c1, rfl, hle1, _⟩ := Kd.R_reads ho1)
      go_roundw
      case rel => exact ⟨k + 1, by omega, by go_num, by rw [List.length_take] at ho1; exact ho1, hb1⟩
      case measure => simp [intOf]; omega
    · obtain rfl : k = l.length := by omega
      clear hyl
      rw [List.take_length] at hy
      have hy := hy.symm
      subst hy
      have HTL := Aside0.mk (show (l.length + 1) * 1 ≤ 140737488355328 by omega)
      go_wp2_with (at_builtin; refine Kd.R_append (Kd.int .u8) (w0 := w) w.heap.size rfl _ _ 23 5 (.int .u8 0) 1 rfl Tryd.underlying23 infoB rfl (by decide) (by decide) (.slice A3 l.length c3) l 77 [.int .u8 77] (fun _ => True) (fun _ => False) (by rfl) (by rfl) rfl (fun _ h => h.elim) (fun _ _ => trivial) HO.out HB.out HB.out.size HTL.out ?_; intro v1 w1 ho1 hb1 hg1 hat1; obtain ⟨A1, c1, rfl, hle1, _⟩ := Kd.R_reads ho1; rw [List.length_append, List.length_singleton] at hle1)
      go_ret
      exact ⟨A1, c1, rfl, by omega, by rw [List.length_append, List.length_singleton] at ho1; exact ho1, hb1⟩
set_option maxHeartbeats 4000000 in
set_option maxRecDepth 100000 in
theorem twinNumbers_calls (A : Option Addr) (c : Nat) (l : List Int) (w : World) (hR : Kd.C (Kd.int .u32) w A l.length l) (hc : l.length ≤ c) (hl : l.length ≤ 2000000) :
    Calls Tryd.prog 64 #[.slice A l.length c] w fun e w' => ∃ A' c', e = .returned (.slice A' l.length c') ∧ l.length < c' ∧ Kd.R (Kd.int .u32) 26 w' w.heap.size (fun _ => True) (.slice A' (l.length + 1) c') (l ++ [77]) ∧ Below w.heap.size w w' := by
  have HR := Aside0.mk hR
  have HC := Aside0.mk hc
  have HL := Aside0.mk hl
  obtain ⟨i, hi, hz0, hz1, hz2⟩ : ∃ i, Tryd.prog.info? 26 = some i ∧ i.zero = some (.int .u32 0) ∧ i.size = 1 ∧ i.bytes = 4 := by
    obtain ⟨i, hi, h2⟩ := Option.map_eq_some_iff.1 info_t32q
    simp only [Prod.mk.injEq] at h2
    exact ⟨i, hi, h2⟩
  obtain ⟨wm, hmk, hown, hgr⟩ := run_make_own (P := Tryd.prog) w w.heap.size 41 26 i (.int .u32 0) 1 Tryd.underlying41 hi hz0 hz1 .i64 .i64 (l.length + 1) (by rw [hz2]; omega) (by simp [maxLen]; omega) (Nat.le_refl _)
  have hmk' : (Instr.makeSlice 41 (.int .i64 0) (.int .i64 (wrap64 ((l.length : Int) + 1)))).run Tryd.prog w = .ok (.slice (some ⟨w.heap.size, 0, none⟩) 0 (l.length + 1)) wm := by
    have := hmk
    rw [wrap_in (by omega) (by omega)]
    rwa [show ((l.length + 1 : Nat) : Int) = (l.length : Int) + 1 by omega] at this
  have ho0 : Kd.R (Kd.int .u32) 26 wm w.heap.size (fun _ => True) (.slice (some ⟨w.heap.size, 0, none⟩) 0 (l.length + 1)) [] := Kd.R_of_own (enc := Value.int .u32) (h1 := fun _ => rfl) hown (fun _ _ => trivial)
  have hb0 : Below w.heap.size w wm := pw_below_grown (Below.refl _ _) none (Nat.le_refl _) hgr (fun _ h => by cases h)
  have HO := Aside0.mk ho0
  have HB := Aside0.mk hb0
  clear hR hc hl hi hz0 hz1 hz2 hmk hown hgr ho0 hb0
  go_enter Tryd.func64, Tryd.ntmps64
  go_wp2_with fail
  go_loopw [3, 4] (fun v3 v4 wr => ∃ k : Nat, k ≤ l.length ∧ v4 = .int .i64 k ∧ Kd.R (Kd.int .u32) 26 wr w.heap.size (fun _ => True) v3 (l.take k) ∧ Below w.heap.size w wr) (fun _ v4 _ => l.length - (intOf v4).toNat)
  case atStart => exact ⟨0, Nat.zero_le _, rfl, by rw [List.take_zero]; exact HO.out, HB.out⟩
  case round =>
    clear HO HB
    obtain ⟨k, hk, rfl, ho, hb⟩ := hrel
    obtain ⟨y, hy⟩ : ∃ y, y = l.take k := ⟨_, rfl⟩
    rw [← hy] at ho
    have hyl : y.length = k := by rw [hy, List.length_take]; omega
    obtain ⟨A3, c3, rfl, hc3, _⟩ := Kd.R_reads ho
    have HO := Aside0.mk ho
    have HB := Aside0.mk hb
    have hl2 := HL.out
    clear ho hb
    by_cases hlt : k < l.length
    · obtain ⟨ad, rfl, hcell⟩ := Kd.at_int (Kd.C_below HR.out HB.out) (k : Int) (by omega) (by omega)
      have hrd : rd l (k : Int) = l[k] := by unfold rd; rw [Int.toNat_natCast, List.getD_eq_getElem?_getD, List.getElem?_eq_getElem hlt]; rfl
      rw [hrd, Int.toNat_natCast] at hcell
      have HS := Aside0.mk (show l.take (k + 1) = y ++ [l[k]] by rw [hy]; exact List.take_succ_eq_append_getElem hlt)
      have HTL := Aside0.mk (show (y.length + 1) * 4 ≤ 140737488355328 by omega)
      clear hy hyl
      go_wp2_with (at_builtin; refine Kd.R_append (Kd.int .u32) (w0 := w) w.heap.size rfl _ _ 41 26 (.int .u32 0) 4 rfl Tryd.underlying41 info_t32q rfl (by decide) (by decide) (.slice A3 y.length c3) y l[k] [.int .u32 l[k]] (fun _ => True) (fun _ => False) (by rfl) (by rfl) rfl (fun _ h => h.elim) (fun _ _ => trivial) HO.out HB.out HB.out.size HTL.out ?_; intro v1 w1 ho1 hb1 hg1 hat1; rw [← HS.out] at ho1; obtain ⟨A1, c1, rfl, hle1, _⟩ := Kd.R_reads ho1)
      go_roundw
      case rel => exact ⟨k + 1, by omega, by go_num, by rw [List.length_take] at ho1; exact ho1, hb1⟩
      case measure => simp [intOf]; omega
    · obtain rfl : k = l.length := by omega
      clear hyl
      rw [List.take_length] at hy
      have hy := hy.symm
      subst hy
      have HTL := Aside0.mk (show (l.length + 1) * 4 ≤ 140737488355328 by omega)
      go_wp2_with (at_builtin; refine Kd.R_append (Kd.int .u32) (w0 := w) w.heap.size rfl _ _ 41 26 (.int .u32 0) 4 rfl Tryd.underlying41 info_t32q rfl (by decide) (by decide) (.slice A3 l.length c3) l 77 [.int .u32 77] (fun _ => True) (fun _ => False) (by rfl) (by rfl) rfl (fun _ h => h.elim) (fun _ _ => trivial) HO.out HB.out HB.out.size HTL.out ?_; intro v1 w1 ho1 hb1 hg1 hat1; obtain ⟨A1, c1, rfl, hle1, _⟩ := Kd.R_reads ho1; rw [List.length_append, List.length_singleton] at hle1)
      go_ret
      exact ⟨A1, c1, rfl, by omega, by rw [List.length_append, List.length_singleton] at ho1; exact ho1, hb1⟩
set_option maxHeartbeats 4000000 in
set_option maxRecDepth 100000 in
theorem leftBytes_calls (A0 : Option Addr) (c0 : Nat) (A : Option Addr) (c : Nat) (l : List Int) (w : World) (hT : Kd.C (Kd.int .u8) w A0 (l ++ [77]).length (l ++ [77])) (h0 : l.length < c0) (hR : Kd.C (Kd.int .u8) w A l.length l) (hc : l.length ≤ c) (hl : l.length ≤ 2000000) :
    Calls Tryd.prog 27 #[.slice A0 l.length c0, .slice A l.length c] w fun e w' => e = .returned (.bool true) ∧ Drawn0 w w' := by
  have HR := Aside0.mk hR
  have HC := Aside0.mk hc
  have HT := Aside0.mk hT
  have hle : decide ((c0 : Int) ≤ (l.length : Int)) = false := by simp; omega
  clear hR hc hT
  go_enter Tryd.func27, Tryd.ntmps27
  go_wp2
  go_loopw [5] (fun v5 wr => ∃ k n : Nat, k ≤ l.length ∧ v5 = .int .i64 k ∧ wr = w.drewN n) (fun v5 _ => l.length - (intOf v5).toNat)
  case atStart => exact ⟨0, 0, Nat.zero_le _, rfl, rfl⟩
  case round =>
    obtain ⟨k, n, hk, rfl, rfl⟩ := hrel
    obtain ⟨ad0, hA0, hcell0⟩ := Kd.at_int HT.out (k : Int) (by omega) (by rw [List.length_append, List.length_singleton]; omega)
    by_cases hlt : k < l.length
    · obtain ⟨ad, rfl, hcell⟩ := Kd.at_int HR.out (k : Int) (by omega) (by omega)
      have hrd : rd l (k : Int) = l[k] := by unfold rd; rw [Int.toNat_natCast, List.getD_eq_getElem?_getD, List.getElem?_eq_getElem hlt]; rfl
      have hrd0 : rd (l ++ [77]) (k : Int) = l[k] := by unfold rd; rw [Int.toNat_natCast, List.getD_eq_getElem?_getD, List.getElem?_append_left hlt, List.getElem?_eq_getElem hlt]; rfl
      rw [hrd, Int.toNat_natCast] at hcell
      rw [hrd0, Int.toNat_natCast] at hcell0
      subst hA0
      obtain ⟨q, hq⟩ : ∃ q, l[k] = q := ⟨_, rfl⟩
      rw [hq] at hcell hcell0
      have c3 : (q != q) = false := by simp
      clear hrd hrd0 hq
      go_wp2
      go_region
      go_wp2
      go_roundw
      case rel => exact ⟨k + 1, n + 1, by omega, by go_num, rfl⟩
      case measure => simp [intOf]; omega
    · obtain rfl : k = l.length := by omega
      have hrd0 : rd (l ++ [77]) (l.length : Int) = 77 := by unfold rd; rw [Int.toNat_natCast, List.getD_eq_getElem?_getD, List.getElem?_append_right (Nat.le_refl _)]; simp
      rw [hrd0, Int.toNat_natCast] at hcell0
      subst hA0
      clear hrd0
      go_wp2
      go_ret
      exact ⟨rfl, ⟨_, rfl⟩⟩
set_option maxHeartbeats 4000000 in
set_option maxRecDepth 100000 in
theorem leftNumbers_calls (A0 : Option Addr) (c0 : Nat) (A : Option Addr) (c : Nat) (l : List Int) (w : World) (hT : Kd.C (Kd.int .u32) w A0 (l ++ [77]).length (l ++ [77])) (h0 : l.length < c0) (hR : Kd.C (Kd.int .u32) w A l.length l) (hc : l.length ≤ c) (hl : l.length ≤ 2000000) :
    Calls Tryd.prog 67 #[.slice A0 l.length c0, .slice A l.length c] w fun e w' => e = .returned (.bool true) ∧ Drawn0 w w' := by
  have HR := Aside0.mk hR
  have HC := Aside0.mk hc
  have HT := Aside0.mk hT
  have hle : decide ((c0 : Int) ≤ (l.length : Int)) = false := by simp; omega
  clear hR hc hT
  go_enter Tryd.func67, Tryd.ntmps67
  go_wp2
  go_loopw [5] (fun v5 wr => ∃ k n : Nat, k ≤ l.length ∧ v5 = .int .i64 k ∧ wr = w.drewN n) (fun v5 _ => l.length - (intOf v5).toNat)
  case atStart => exact ⟨0, 0, Nat.zero_le _, rfl, rfl⟩
  case round =>
    obtain ⟨k, n, hk, rfl, rfl⟩ := hrel
    obtain ⟨ad0, hA0, hcell0⟩ := Kd.at_int HT.out (k : Int) (by omega) (by rw [List.length_append, List.length_singleton]; omega)
    by_cases hlt : k < l.length
    · obtain ⟨ad, rfl, hcell⟩ := Kd.at_int HR.out (k : Int) (by omega) (by omega)
      have hrd : rd l (k : Int) = l[k] := by unfold rd; rw [Int.toNat_natCast, List.getD_eq_getElem?_getD, List.getElem?_eq_getElem hlt]; rfl
      have hrd0 : rd (l ++ [77]) (k : Int) = l[k] := by unfold rd; rw [Int.toNat_natCast, List.getD_eq_getElem?_getD, List.getElem?_append_left hlt, List.getElem?_eq_getElem hlt]; rfl
      rw [hrd, Int.toNat_natCast] at hcell
      rw [hrd0, Int.toNat_natCast] at hcell0
      subst hA0
      obtain ⟨q, hq⟩ : ∃ q, l[k] = q := ⟨_, rfl⟩
      rw [hq] at hcell hcell0
      have c3 : (q != q) = false := by simp
      clear hrd hrd0 hq
      go_wp2
      go_region
      go_wp2
      go_roundw
      case rel => exact ⟨k + 1, n + 1, by omega, by go_num, rfl⟩
      case measure => simp [intOf]; omega
    · obtain rfl : k = l.length := by omega
      have hrd0 : rd (l ++ [77]) (l.length : Int) = 77 := by unfold rd; rw [Int.toNat_natCast, List.getD_eq_getElem?_getD, List.getElem?_append_right (Nat.le_refl _)]; simp
      rw [hrd0, Int.toNat_natCast] at hcell0
      subst hA0
      clear hrd0
      go_wp2
      go_ret
      exact ⟨rfl, ⟨_, rfl⟩⟩
end Go.Proofs.YtncplnobmiljfaaDoor.Hand
