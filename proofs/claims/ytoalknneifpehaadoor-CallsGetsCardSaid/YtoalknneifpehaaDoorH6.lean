import Derived.Test.YtoalknneifpehaaDoorH4
import Derived.Test.YtoalknneifpehaaDoorH5
namespace Go.Proofs.YtoalknneifpehaaDoor.Hand
open Go.RowKit Go.Proofs.YtoalknneifpehaaDoorW.PrintWords Go.Proofs.YtoalknneifpehaaDoorW.PrintLast Go.Proofs.YtoalknneifpehaaDoorW.PrintMore
set_option linter.unusedVariables false
set_option linter.unusedSimpArgs false

theorem beL_mod32 (x : Int) : beL (x % 4294967296) 4 = beL x 4 := by
  unfold beL
  apply List.map_congr_left
  intro j hj
  have hj' : j < 4 := List.mem_range.1 hj
  have hk : 4 - 1 - j < 4 := by omega
  generalize 4 - 1 - j = k at hk
  have : k = 0 ∨ k = 1 ∨ k = 2 ∨ k = 3 := by omega
  rcases this with rfl | rfl | rfl | rfl <;> simp <;> omega

def opaque_Put.f (l0 : List Int) : Option (List Int) := if l0.length ≤ 140737488355300 then some (beL l0.length 4 ++ padded l0) else none
set_option maxHeartbeats 1000000 in
theorem opaque_Put.calls (A0 : Option Addr) (c0 : Nat) (l0 : List Int) (r : List Int) (w : World) (hr0 : Kd.C (Kd.int .u8) w A0 l0.length l0) (hc0 : l0.length ≤ c0) (h : opaque_Put.f l0 = some r) :
    Calls Tryd.prog 23 #[.slice A0 l0.length c0] w fun e w' => ∃ v0_ : Value, e = .returned (v0_) ∧ Kd.R (Kd.int .u8) 5 w' w.heap.size (fun _ => True) v0_ r ∧ Below w.heap.size w w' := by
  unfold opaque_Put.f at h
  by_cases hl : l0.length ≤ 140737488355300
  · rw [if_pos hl] at h
    obtain rfl := Option.some.inj h
    clear h
    have HR := Aside0.mk hr0
    have HC := Aside0.mk hc0
    have HL := Aside0.mk hl
    clear hr0 hc0 hl
    go_enter Tryd.func23, Tryd.ntmps23
    go_wp2_with (go_at_call 21; refine (words_Put.calls _ _ _ rfl).mono ?_; rintro e w1 ⟨v1, rfl, ho1, hb1⟩)
    have ho1' : OB w1 w.heap.size v1 (beL (l0.length : Int) 4) := by
      first | exact ho1 | (rw [IntKind.wrap_u32, beL_mod32] at ho1; exact ho1) | (rw [beL_mod32] at ho1; exact ho1)
    obtain ⟨A1, c1, rfl, hc1, hR1⟩ := OB_reads ho1'
    have HO1 := Aside0.mk ho1'
    have HB1 := Aside0.mk hb1
    clear ho1 ho1' hb1
    refine (opaque_PutFixed.calls A0 c0 l0 (padded l0) _ (Kd.C_below HR.out HB1.out) HC.out (by unfold opaque_PutFixed.f; rw [if_pos (by have := HL.out; omega)])).mono ?_
    rintro e w2 ⟨v2, rfl, ho2, hb2⟩
    obtain ⟨A2, c2, rfl, hc2, hR2⟩ := OB_reads ho2
    have H2 := Aside0.mk (two_rows w2 A1 A2 c1 c2 (beL (l0.length : Int) 4) (padded l0) (Kd.C_below hR1 hb2) hR2 hc1 hc2)
    have HB2 := Aside0.mk hb2
    clear hb2 ho2 hR2 hR1 hc1 hc2
    go_wp2_with fail
    refine (concat_calls (some ⟨w2.heap.size, 0, none⟩) 2 [beL (l0.length : Int) 4, padded l0] _ H2.out (by simp) ?_).mono ?_
    · have := HL.out; have := padI_range l0.length; simp [beL_length, padded_length]; omega
    rintro e w3 ⟨v3, rfl, ho3, hb3⟩
    go_wp2
    go_ret
    have hle : w.heap.size ≤ w2.heap.size := Nat.le_trans HB1.out.size HB2.out.size
    refine ⟨v3, rfl, ?_, ?_⟩
    · have := Kd.R_lower ho3 (base' := w.heap.size) (by simp; omega)
      simpa using this
    · exact below_then (below_alloc (below_then HB1.out HB1.out.size HB2.out) _) (by simp; omega) hb3
  · rw [if_neg hl] at h; cases h
end Go.Proofs.YtoalknneifpehaaDoor.Hand
