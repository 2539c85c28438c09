import Derived.Test.YtoalknneifpehaaDoorH6
namespace Go.Proofs.YtoalknneifpehaaDoor.Hand
open Go.RowKit Go.Proofs.YtoalknneifpehaaDoorW.PrintWords Go.Proofs.YtoalknneifpehaaDoorW.PrintLast Go.Proofs.YtoalknneifpehaaDoorW.PrintMore
set_option linter.unusedVariables false
set_option linter.unusedSimpArgs false

theorem clone_n (A : Option Addr) (n c : Nat) (xs : List Int) (w : World) (hn : xs.length = n) (hA : RB w A xs) (hc : n ≤ c) (hlen : n ≤ 140737488355328) :
    Calls Tryd.prog 54 #[.slice A n c] w fun e w' => ∃ v, e = .returned v ∧ OB w' w.heap.size v xs ∧ Below w.heap.size w w' := by
  subst hn; exact clone_calls A c xs w hA hc hlen

theorem cutS_cases (xs : List Int) (n : Nat) : (cutS xs n = 4 ∧ (xs.length : Int) < n + padI n) ∨ (cutS xs n = 0 ∧ n ≤ xs.length) ∨ (cutS xs n = 5 ∧ n ≤ xs.length) := by
  have := padI_range n
  unfold cutS
  split
  · exact .inl ⟨rfl, by assumption⟩
  · split
    · exact .inr (.inl ⟨rfl, by omega⟩)
    · exact .inr (.inr ⟨rfl, by omega⟩)


def opaque_Get.f (l0 : List Int) (a1 : Int) : Option (List Int × Int × Int) :=
  if byteOk (l0.take 4) = true then
    if l0.length < 4 then some ([], 0, 4)
    else if a1 < deB (l0.take 4) then some ([], 0, 3)
    else if cutS (l0.drop 4) (deB (l0.take 4)).toNat = 0 then some ((l0.drop 4).take (deB (l0.take 4)).toNat, 4 + deB (l0.take 4) + padI (deB (l0.take 4)), 0)
    else some ([], 0, cutS (l0.drop 4) (deB (l0.take 4)).toNat)
  else none
set_option maxHeartbeats 2000000 in
theorem opaque_Get.calls (A0 : Option Addr) (c0 : Nat) (l0 : List Int) (a1 : Int) (r1 : List Int) (r2 r3 : Int) (w : World) (hr0 : Kd.C (Kd.int .u8) w A0 l0.length l0) (hc0 : l0.length ≤ c0) (h : opaque_Get.f l0 a1 = some (r1, r2, r3)) :
    Calls Tryd.prog 104 #[.slice A0 l0.length c0, .int .i64 a1] w fun e w' => ∃ v0_ : Value, e = .returned (.tuple #[v0_, .int .i64 r2, .int .i64 r3]) ∧ Kd.R (Kd.int .u8) 5 w' w.heap.size (fun _ => True) v0_ r1 ∧ Below w.heap.size w w' := by
  unfold opaque_Get.f at h
  have HR := Aside0.mk hr0
  have HC := Aside0.mk hc0
  clear hr0 hc0
  by_cases hb : byteOk (l0.take 4) = true
  · rw [if_pos hb] at h
    have hget : ∀ W, RB W A0 l0 → Calls Tryd.prog 103 #[.slice A0 l0.length c0] W fun e w' => e = .returned (.tuple #[.int .u32 (if l0.length < 4 then 0 else deB (l0.take 4)), .int .i64 (if l0.length < 4 then 4 else 0)]) ∧ Drawn0 W w' :=
      fun W hW => words_Get.calls A0 c0 l0 _ _ W hW HC.out (by unfold words_Get.f; rw [if_pos hb])
    by_cases h4 : l0.length < 4
    · rw [if_pos h4] at h
      simp only [Option.some.injEq, Prod.mk.injEq] at h
      obtain ⟨rfl, rfl, rfl⟩ := h
      simp only [if_pos h4] at hget
      have HG := Aside0.mk hget
      clear hget h4 hb
      go_enter Tryd.func104, Tryd.ntmps104
      go_wp2_with (go_at_call 103; refine (HG.out _ HR.out).mono ?_; rintro e w' ⟨rfl, ⟨nd, rfl⟩⟩)
      go_ret3
      exact ⟨_, rfl, Kd.R_nil _ _ _ _ _, pw_below_drewN (Below.refl _ _) _⟩
    · rw [if_neg h4] at h
      simp only [if_neg h4] at hget
      have hdr := deB_range 4 (l0.take 4) (by simp; omega) hb
      have hd2 : deB (l0.take 4) < 4294967296 := by have := hdr.2; simp at this; omega
      obtain ⟨n, hn⟩ := Int.eq_ofNat_of_zero_le hdr.1
      rw [hn] at h hget hd2
      have hn2 : n < 4294967296 := by omega
      have HG := Aside0.mk hget
      have HL4 := Aside0.mk h4
      clear hget hdr hd2 hn hb
      by_cases h5 : a1 < n
      · rw [if_pos h5] at h
        simp only [Option.some.injEq, Prod.mk.injEq] at h
        obtain ⟨rfl, rfl, rfl⟩ := h
        have c5 : decide (a1 < (n : Int)) = true := decide_eq_true h5
        clear h5 h4
        go_enter Tryd.func104, Tryd.ntmps104
        go_wp2_with (go_at_call 103; refine (HG.out _ HR.out).mono ?_; rintro e w' ⟨rfl, ⟨nd, rfl⟩⟩)
        go_ret3
        exact ⟨_, rfl, Kd.R_nil _ _ _ _ _, pw_below_drewN (Below.refl _ _) _⟩
      · rw [if_neg h5] at h
        simp only [Int.toNat_natCast] at h
        have c5 : decide (a1 < (n : Int)) = false := decide_eq_false h5
        obtain ⟨i0, hi0, _, hsz, _⟩ := info_parts infoB
        obtain ⟨A1, hcutI, hA1, hC1⟩ := print_cut_int (P := Tryd.prog) (k := .u8) 26 5 Tryd.underlying26 hi0 hsz A0 c0 l0 4 (by omega) (by omega) HC.out
        have hA1' : ∀ W : World, RB W A0 l0 → RB W A1 (l0.drop 4) := fun W hW => Kd.C_of_reads (d := (0 : Int)) (h1 := fun _ => rfl) (hA1 W (Kd.reads_of_C hW))
        have HA1 := Aside0.mk hA1'
        have hl4 : (l0.drop (4 : Int).toNat) = l0.drop 4 := rfl
        rw [hl4] at hcutI hC1
        rw [show c0 - (4 : Int).toNat = c0 - 4 from rfl] at hcutI hC1
        have hcut := fun W hW => cut_calls A1 (c0 - 4) (l0.drop 4) n W hW hC1 (by omega)
        clear h4 h5 hA1 hA1' hi0 hsz hl4
        by_cases h3 : cutS (l0.drop 4) n = 0
        · rw [if_pos h3] at h
          simp only [Option.some.injEq, Prod.mk.injEq] at h
          obtain ⟨rfl, rfl, rfl⟩ := h
          have hnl : n ≤ (l0.drop 4).length := by rcases cutS_cases (l0.drop 4) n with ⟨e, _⟩ | ⟨e, h⟩ | ⟨e, h⟩ <;> omega
          simp only [h3, if_true] at hcut
          have HCUT := Aside0.mk hcut
          have hp := padI_range n
          have hlt : ((l0.drop 4).take n).length = n := by rw [List.length_take]; omega
          have HLT := Aside0.mk hlt
          have HT := fun (W : World) (hW : RB W A1 (l0.drop 4)) => (show RB W A1 ((l0.drop 4).take n) from Kd.C_take hW hnl)
          have HTT := Aside0.mk HT
          obtain ⟨p, hpq⟩ : ∃ p, padI n = p := ⟨_, rfl⟩
          rw [hpq] at hp ⊢
          have HP := Aside0.mk hpq
          clear hcut h3 hlt HT hpq hnl
          obtain ⟨p1, p2⟩ := hp
          obtain ⟨L, hL⟩ : ∃ L, l0.drop 4 = L := ⟨_, rfl⟩
          rw [hL] at hcutI HCUT HTT HLT HA1 hC1 ⊢
          go_enter Tryd.func104, Tryd.ntmps104
          go_wp2_with (first | (go_at_call 103; refine (HG.out _ HR.out).mono ?_; rintro e w' ⟨rfl, ⟨nd, rfl⟩⟩) | (go_at_call 110; refine (HCUT.out _ (HA1.out _ (Kd.C_drewN HR.out _))).mono ?_; rintro e w' ⟨rfl, ⟨nd1, rfl⟩⟩))
          refine (clone_n A1 n n (L.take n) _ HLT.out (HTT.out _ (Kd.C_drewN (HA1.out _ HR.out) _)) (Nat.le_refl _) (by omega)).mono ?_
          rintro e w1 ⟨v1, rfl, ho1, hb1⟩
          have HO1 := Aside0.mk ho1
          have HB1 := Aside0.mk hb1
          clear ho1 hb1
          go_wp2_with (go_at_call 99; refine (opaque_Pad.calls n p _ (by unfold opaque_Pad.f; rw [HP.out])).mono ?_; rintro e w' ⟨rfl, ⟨nd2, rfl⟩⟩)
          go_ret3
          exact ⟨v1, rfl, Kd.R_drewN HO1.out _, pw_below_drewN (below_then (pw_below_drewN (Below.refl _ _) _) (Nat.le_refl _) HB1.out) _⟩
        · rw [if_neg h3] at h
          simp only [Option.some.injEq, Prod.mk.injEq] at h
          obtain ⟨rfl, rfl, rfl⟩ := h
          simp only [if_neg h3] at hcut
          have HCUT := Aside0.mk hcut
          have c3 : (cutS (l0.drop 4) n != 0) = true := by simpa using h3
          clear hcut h3
          obtain ⟨L, hL⟩ : ∃ L, l0.drop 4 = L := ⟨_, rfl⟩
          rw [hL] at hcutI HCUT HA1 hC1 c3 ⊢
          go_enter Tryd.func104, Tryd.ntmps104
          go_wp2_with (first | (go_at_call 103; refine (HG.out _ HR.out).mono ?_; rintro e w' ⟨rfl, ⟨nd, rfl⟩⟩) | (go_at_call 110; refine (HCUT.out _ (HA1.out _ (Kd.C_drewN HR.out _))).mono ?_; rintro e w' ⟨rfl, ⟨nd1, rfl⟩⟩))
          go_ret3
          exact ⟨_, rfl, Kd.R_nil _ _ _ _ _, pw_below_drewN (Below.refl _ _) _⟩
  · rw [if_neg hb] at h; cases h
end Go.Proofs.YtoalknneifpehaaDoor.Hand
