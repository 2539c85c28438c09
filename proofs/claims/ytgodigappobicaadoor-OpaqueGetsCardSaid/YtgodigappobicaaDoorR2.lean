import Derived.Test.YtgodigappobicaaDoorR1
import Derived.Test.YtgodigappobicaaDoorQ02
namespace Go.Proofs.YtgodigappobicaaDoor.Hand
open Go.RowKit Go.Proofs.YtgodigappobicaaDoor.GB Go.Proofs.YtgodigappobicaaDoorW.PrintWords Go.Proofs.YtgodigappobicaaDoorW.PrintLast Go.Proofs.YtgodigappobicaaDoorW.PrintMore
set_option linter.unusedVariables false
set_option linter.unusedSimpArgs false

set_option maxHeartbeats 1000000 in
theorem ref01_Put_calls (n : Int) (w : World) (h0 : 0 ≤ n) (h1 : n < 4294967296) :
    Calls Tryd.prog 24 #[.int .u32 n] w fun e w' => ∃ v, e = .returned v ∧ OB w' w.heap.size v (beL n 4) ∧ Below w.heap.size w w' := by
  have HL := Aside0.mk (own_lit w w.heap.size 5 .u8 (beL n 4) (Nat.le_refl _) (by rw [beL_length]; omega))
  have HE := Aside0.mk (beL4 n)
  have HLN := Aside0.mk (beL_length n 4)
  have q1 : n / 16777216 % 256 = n / 16777216 := by omega
  have Q1 := Aside0.mk q1
  clear q1
  go_enter Tryd.func24, Tryd.ntmps24
  go_wp2
  go_ret
  refine ⟨_, rfl, ?_, below_alloc (Below.refl _ _) _⟩
  have hL := HL.out
  rw [HLN.out] at hL
  have hx : nums .u8 (beL n 4) = [.int .u8 (n / 16777216), .int .u8 (n / 65536 % 256), .int .u8 (n / 256 % 256), .int .u8 (n % 256)] := by
    rw [HE.out]; simp only [nums, List.map_cons, List.map_nil, Q1.out]
  rw [hx] at hL
  refine OB_of ?_
  rw [HLN.out, show (beL n 4).map (Value.int .u8) = nums .u8 (beL n 4) from rfl, hx]
  exact hL
set_option maxHeartbeats 2000000 in
theorem ref02_PutFixed_calls (A : Option Addr) (c : Nat) (l : List Int) (w : World) (hA : RB w A l) (hc : l.length ≤ c) (hl : l.length ≤ 140737488351232) :
    Calls Tryd.prog 12 #[.slice A l.length c] w fun e w' => ∃ v, e = .returned v ∧ OB w' w.heap.size v (padded l) ∧ Below w.heap.size w w' := by
  obtain ⟨q, hq⟩ : ∃ q : Nat, padI l.length = q := ⟨(padI l.length).toNat, by have := padI_range l.length; omega⟩
  have hq3 : q ≤ 3 := by have := padI_range l.length; omega
  have HP : Aside0 (∀ W, Calls Tryd.prog 14 #[.int .i64 (l.length : Int)] W fun e w' => e = .returned (.int .i64 q) ∧ W = w') := ⟨fun W => by have := ref02_Pad_calls (l.length : Int) W (by omega); rwa [hq] at this⟩
  have HQ := Aside0.mk (show padded l = l ++ List.replicate q 0 by unfold padded; rw [hq, Int.toNat_natCast])
  have HA := Aside0.mk hA
  have HC := Aside0.mk hc
  have HTL := Aside0.mk (show (([] : List Int).length + l.length) * 1 ≤ 140737488355328 by simp; omega)
  clear hA hc hq
  go_enter Tryd.func12, Tryd.ntmps12
  go_wp2_with (at_builtin; refine Kd.R_append_row (Value.int .u8) (0 : Int) (h1 := fun _ => rfl) (w0 := w) w.heap.size rfl (.tmp 5) (.tmp 6) 22 5 (.int .u8 0) 1 rfl Tryd.underlying22 infoB rfl (by decide) _ ([] : List Int) l A _ c (fun _ => True) rfl rfl (fun _ _ => trivial) (Kd.R_nil _ _ _ _ _) HA.out (Below.refl _ _) (Nat.le_refl _) HTL.out ?_; intro v1 w1 ho1 hb1 hg1 hat1; rw [List.nil_append] at ho1; obtain ⟨A1, c1, rfl, hle, _⟩ := OB_reads ho1; have HO := Aside0.mk ho1; have HB := Aside0.mk hb1; clear ho1 hb1 hg1 hat1 hle)
  go_loopw [3, 4] (fun v3 v4 wr => ∃ k : Nat, k ≤ q ∧ v4 = .int .i64 k ∧ OB wr w.heap.size v3 (l ++ List.replicate k 0) ∧ Below w.heap.size w wr) (fun _ v4 _ => q - (intOf v4).toNat)
  case atStart => exact ⟨0, Nat.zero_le _, rfl, by rw [List.replicate_zero, List.append_nil]; exact HO.out, HB.out⟩
  case round =>
    clear HO HB
    obtain ⟨k, hk, rfl, ho, hb⟩ := hrel
    obtain ⟨A3, c3, rfl, hc3, _⟩ := OB_reads ho
    obtain ⟨y, hy⟩ : ∃ y, y = l ++ List.replicate k 0 := ⟨_, rfl⟩
    have hyl : y.length = l.length + k := by rw [hy]; simp
    rw [← hy] at ho ⊢
    have HO := Aside0.mk ho
    have HB := Aside0.mk hb
    have HY := Aside0.mk hy
    clear ho hb hc3 hy
    by_cases hlt : k < q
    · have HS := Aside0.mk (show l ++ List.replicate (k + 1) 0 = y ++ [0] by rw [HY.out, List.replicate_succ', List.append_assoc])
      have HT2 := Aside0.mk (show (y.length + 1) * 1 ≤ 140737488355328 by omega)
      clear hyl
      go_wp2_with (first | (go_at_call 14; refine (HP.out _).mono ?_; rintro e w' ⟨rfl, rfl⟩) | (at_builtin; refine Kd.R_append (Kd.int .u8) (w0 := w) w.heap.size rfl (.tmp 15) (.tmp 16) 22 5 (.int .u8 0) 1 rfl Tryd.underlying22 infoB rfl (by decide) (by decide) (.slice A3 y.length c3) y 0 [.int .u8 0] (fun _ => True) (fun _ => False) (by rfl) (by rfl) rfl (fun _ h => h.elim) (fun _ _ => trivial) HO.out HB.out HB.out.size HT2.out ?_; intro v1 w1 ho1 hb1 hg1 hat1; rw [← HS.out] at ho1; obtain ⟨A1, c1, rfl, hle1, _⟩ := Kd.R_reads ho1))
      go_roundw
      case rel => exact ⟨k + 1, by omega, by go_num, by (have h2 := ho1; rw [List.length_append, List.length_replicate] at h2; exact h2), hb1⟩
      case measure => simp [intOf]; omega
    · obtain rfl : k = q := by omega
      clear hyl
      go_wp2_with (go_at_call 14; refine (HP.out _).mono ?_; rintro e w' ⟨rfl, rfl⟩)
      go_ret
      exact ⟨_, rfl, by rw [HQ.out, ← HY.out]; exact HO.out, HB.out⟩
set_option maxHeartbeats 2000000 in
theorem ref02_Put_calls (A : Option Addr) (c : Nat) (l : List Int) (w : World) (hA : RB w A l) (hc : l.length ≤ c) (hl : l.length ≤ 1048580) :
    Calls Tryd.prog 11 #[.slice A l.length c] w fun e w' => ∃ v, e = .returned v ∧ OB w' w.heap.size v (putL l) ∧ Below w.heap.size w w' := by
  have HA := Aside0.mk hA
  have HP := fun W (hW : RB W A l) => ref02_PutFixed_calls A c l W hW hc (by omega)
  have HP := Aside0.mk HP
  have HTL := Aside0.mk (show ((beL l.length 4).length + (padded l).length) * 1 ≤ 140737488355328 by have := padI_range l.length; rw [beL_length, padded_length]; omega)
  have HE := Aside0.mk (show putL l = beL l.length 4 ++ padded l from rfl)
  obtain ⟨y, hy⟩ : ∃ y, y = padded l := ⟨_, rfl⟩
  obtain ⟨z, hz⟩ : ∃ z, z = beL l.length 4 := ⟨_, rfl⟩
  have H1 := fun W => ref01_Put_calls (l.length : Int) W (by omega) (by omega)
  rw [← hz] at H1
  rw [← hy] at HP
  rw [← hy, ← hz] at HTL HE
  have H1 := Aside0.mk H1
  clear hA hy hz
  go_enter Tryd.func11, Tryd.ntmps11
  go_wp2_with fail
  refine (H1.out _).mono ?_
  rintro e w1 ⟨v1, rfl, ho1, hb1⟩
  obtain ⟨A1, c1, rfl, hc1, _⟩ := OB_reads ho1
  have HB1 := Aside0.mk hb1
  have HO1 := Aside0.mk ho1
  have HA1 := Aside0.mk (Kd.C_below HA.out hb1)
  clear ho1 hb1 hc1
  go_wp2_with fail
  refine (HP.out _ HA1.out).mono ?_
  rintro e w2 ⟨v2, rfl, ho2, hb2⟩
  obtain ⟨A2, c2, rfl, hc2, hR2⟩ := OB_reads ho2
  have HB2 := Aside0.mk (below_then HB1.out HB1.out.size hb2)
  have HO2 := Aside0.mk (Kd.R_mono (Kd.R_elder' HO1.out (Kd.R_base ho2) hb2) (ok' := fun _ => True) (fun _ _ => trivial))
  have HR2 := Aside0.mk hR2
  have hHB := HB2.out
  clear ho2 hb2 hR2 hc2 HO1 HB1 HA HA1
  go_wp2_with (at_builtin; refine Kd.R_append_row (Value.int .u8) (0 : Int) (h1 := fun _ => rfl) (w0 := w) w.heap.size rfl _ _ 22 5 (.int .u8 0) 1 rfl Tryd.underlying22 infoB rfl (by decide) _ z y A2 _ c2 (fun _ => True) rfl rfl (fun _ _ => trivial) HO2.out HR2.out HB2.out HB2.out.size HTL.out ?_; intro v3 w3 ho3 hb3 hg3 hat3; rw [← HE.out] at ho3)
  go_ret
  exact ⟨_, rfl, ho3, hb3⟩
end Go.Proofs.YtgodigappobicaaDoor.Hand
