import Derived.Test.YtncplnobmiljfaaDoorR1
import Derived.Test.YtncplnobmiljfaaDoorQ03
namespace Go.Proofs.YtncplnobmiljfaaDoor.Hand
open Go.RowKit Go.Proofs.YtncplnobmiljfaaDoor.GB Go.Proofs.YtncplnobmiljfaaDoorW.PrintWords Go.Proofs.YtncplnobmiljfaaDoorW.PrintLast Go.Proofs.YtncplnobmiljfaaDoorW.PrintMore
set_option linter.unusedVariables false
set_option linter.unusedSimpArgs false

set_option maxHeartbeats 1000000 in
theorem ref01_Put_calls (n : Int) (w : World) (h0 : 0 ≤ n) (h1 : n < 4294967296) :
    Calls Tryd.prog 66 #[.int .u32 n] w fun e w' => ∃ v, e = .returned v ∧ OB w' w.heap.size v (beL n 4) ∧ Below w.heap.size w w' := by
  have HL := Aside0.mk (own_lit w w.heap.size 5 .u8 (beL n 4) (Nat.le_refl _) (by rw [beL_length]; omega))
  have HE := Aside0.mk (beL4 n)
  have HLN := Aside0.mk (beL_length n 4)
  have q1 : n / 16777216 % 256 = n / 16777216 := by omega
  have Q1 := Aside0.mk q1
  clear q1
  go_enter Tryd.func66, Tryd.ntmps66
  go_wp2
  go_ret
  refine ⟨_, rfl, ?_, below_alloc (Below.refl _ _) _⟩
  have hL := HL.out
  rw [HLN.out] at hL
  have hx : nums .u8 (beL n 4) = [.int .u8 (n / 16777216), .int .u8 (n / 65536 % 256), .int .u8 (n / 256 % 256), .int .u8 (n % 256)] := by
    rw [HE.out]; simp only [nums, List.map_cons, List.map_nil, Q1.out]
  rw [hx] at hL
  refine OB_of ?_
  rw [HLN.out, show (beL n 4).map (Value.int .u8) = nums .u8 (beL n 4) from rfl, hx]
  exact hL
set_option maxHeartbeats 2000000 in
theorem ref02_PutFixed_calls (A : Option Addr) (c : Nat) (l : List Int) (w : World) (hA : RB w A l) (hc : l.length ≤ c) (hl : l.length ≤ 140737488351232) :
    Calls Tryd.prog 84 #[.slice A l.length c] w fun e w' => ∃ v, e = .returned v ∧ OB w' w.heap.size v (padded l) ∧ Below w.heap.size w w' := by
  obtain ⟨q, hq⟩ : ∃ q : Nat, padI l.length = q := ⟨(padI l.length).toNat, by have := padI_range l.length; omega⟩
  have hq3 : q ≤ 3 := by have := padI_range l.length; omega
  have HP : Aside0 (∀ W, Calls Tryd.prog 118 #[.int .i64 (l.length : Int)] W fun e w' => e = .returned (.int .i64 q) ∧ W = w') := ⟨fun W => by have := ref02_Pad_calls (l.length : Int) W (by omega); rwa [hq] at this⟩
  have HQ := Aside0.mk (show padded l = l ++ List.replicate q 0 by unfold padded; rw [hq, Int.toNat_natCast])
  have HA := Aside0.mk hA
  have HC := Aside0.mk hc
  have HTL := Aside0.mk (show (([] : List Int).length + l.length) * 1 ≤ 140737488355328 by simp; omega)
  clear hA hc hq
  go_enter Tryd.func84, Tryd.ntmps84
  go_wp2_with (at_builtin; refine Kd.R_append_row (Value.int .u8) (0 : Int) (h1 := fun _ => rfl) (w0 := w) w.heap.size rfl (.tmp 5) (.tmp 6) 23 5 (.int .u8 0) 1 rfl Tryd.underlying23 infoB rfl (by decide) _ ([] : List Int) l A _ c (fun _ => True) rfl rfl (fun _ _ => trivial) (Kd.R_nil _ _ _ _ _) HA.out (Below.refl _ _) (Nat.le_refl _) HTL.out ?_; intro v1 w1 ho1 hb1 hg1 hat1; rw [List.nil_append] at ho1; obtain ⟨A1, c1, rfl, hle, _⟩ := OB_reads ho1; have HO := Aside0.mk ho1; have HB := Aside0.mk hb1; clear ho1 hb1 hg1 hat1 hle)
  go_loopw [3, 4] (fun v3 v4 wr => ∃ k : Nat, k ≤ q ∧ v4 = .int .i64 k ∧ OB wr w.heap.size v3 (l ++ List.replicate k 0) ∧ Below w.heap.size w wr) (fun _ v4 _ => q - (intOf v4).toNat)
  case atStart => exact ⟨0, Nat.zero_le _, rfl, by rw [List.replicate_zero, List.append_nil]; exact HO.out, HB.out⟩
  case round =>
    clear HO HB
    obtain ⟨k, hk, rfl, ho, hb⟩ := hrel
    obtain ⟨A3, c3, rfl, hc3, _⟩ := OB_reads ho
    obtain ⟨y, hy⟩ : ∃ y, y = l ++ List.replicate k 0 := ⟨_, rfl⟩
    have hyl : y.length = l.length + k := by rw [hy]; simp
    rw [← hy] at ho ⊢
    have HO := Aside0.mk ho
    have HB := Aside0.mk hb
    have HY := Aside0.mk hy
    clear ho hb hc3 hy
    by_cases hlt : k < q
    · have HS := Aside0.mk (show l ++ List.replicate (k + 1) 0 = y ++ [0] by rw [HY.out, List.replicate_succ', List.append_assoc])
      have HT2 := Aside0.mk (show (y.length + 1) * 1 ≤ 140737488355328 by omega)
      clear hyl
      go_wp2_with (first | (go_at_call 118; refine (HP.out _).mono ?_; rintro e w' ⟨rfl, rfl⟩) | (at_builtin; refine Kd.R_append (Kd.int .u8) (w0 := w) w.heap.size rfl (.tmp 15) (.tmp 16) 23 5 (.int .u8 0) 1 rfl Tryd.underlying23 infoB rfl (by decide) (by decide) (.slice A3 y.length c3) y 0 [.int .u8 0] (fun _ => True) (fun _ => False) (by rfl) (by rfl) rfl (fun _ h => h.elim) (fun _ _ => trivial) HO.out HB.out HB.out.size HT2.out ?_; intro v1 w1 ho1 hb1 hg1 hat1; rw [← HS.out] at ho1; obtain ⟨A1, c1, rfl, hle1, _⟩ := Kd.R_reads ho1))
      go_roundw
      case rel => exact ⟨k + 1, by omega, by go_num, by (have h2 := ho1; rw [List.length_append, List.length_replicate] at h2; exact h2), hb1⟩
      case measure => simp [intOf]; omega
    · obtain rfl : k = q := by omega
      clear hyl
      go_wp2_with (go_at_call 118; refine (HP.out _).mono ?_; rintro e w' ⟨rfl, rfl⟩)
      go_ret
      exact ⟨_, rfl, by rw [HQ.out, ← HY.out]; exact HO.out, HB.out⟩
set_option maxHeartbeats 2000000 in
theorem ref02_Put_calls (A : Option Addr) (c : Nat) (l : List Int) (w : World) (hA : RB w A l) (hc : l.length ≤ c) (hl : l.length ≤ 1048580) :
    Calls Tryd.prog 38 #[.slice A l.length c] w fun e w' => ∃ v, e = .returned v ∧ OB w' w.heap.size v (putL l) ∧ Below w.heap.size w w' := by
  have HA := Aside0.mk hA
  have HP := fun W (hW : RB W A l) => ref02_PutFixed_calls A c l W hW hc (by omega)
  have HP := Aside0.mk HP
  have HTL := Aside0.mk (show ((beL l.length 4).length + (padded l).length) * 1 ≤ 140737488355328 by have := padI_range l.length; rw [beL_length, padded_length]; omega)
  have HE := Aside0.mk (show putL l = beL l.length 4 ++ padded l from rfl)
  obtain ⟨y, hy⟩ : ∃ y, y = padded l := ⟨_, rfl⟩
  obtain ⟨z, hz⟩ : ∃ z, z = beL l.length 4 := ⟨_, rfl⟩
  have H1 := fun W => ref01_Put_calls (l.length : Int) W (by omega) (by omega)
  rw [← hz] at H1
  rw [← hy] at HP
  rw [← hy, ← hz] at HTL HE
  have H1 := Aside0.mk H1
  clear hA hy hz
  go_enter Tryd.func38, Tryd.ntmps38
  go_wp2_with fail
  refine (H1.out _).mono ?_
  rintro e w1 ⟨v1, rfl, ho1, hb1⟩
  obtain ⟨A1, c1, rfl, hc1, _⟩ := OB_reads ho1
  have HB1 := Aside0.mk hb1
  have HO1 := Aside0.mk ho1
  have HA1 := Aside0.mk (Kd.C_below HA.out hb1)
  clear ho1 hb1 hc1
  go_wp2_with fail
  refine (HP.out _ HA1.out).mono ?_
  rintro e w2 ⟨v2, rfl, ho2, hb2⟩
  obtain ⟨A2, c2, rfl, hc2, hR2⟩ := OB_reads ho2
  have HB2 := Aside0.mk (below_then HB1.out HB1.out.size hb2)
  have HO2 := Aside0.mk (Kd.R_mono (Kd.R_elder' HO1.out (Kd.R_base ho2) hb2) (ok' := fun _ => True) (fun _ _ => trivial))
  have HR2 := Aside0.mk hR2
  have hHB := HB2.out
  clear ho2 hb2 hR2 hc2 HO1 HB1 HA HA1
  go_wp2_with (at_builtin; refine Kd.R_append_row (Value.int .u8) (0 : Int) (h1 := fun _ => rfl) (w0 := w) w.heap.size rfl _ _ 23 5 (.int .u8 0) 1 rfl Tryd.underlying23 infoB rfl (by decide) _ z y A2 _ c2 (fun _ => True) rfl rfl (fun _ _ => trivial) HO2.out HR2.out HB2.out HB2.out.size HTL.out ?_; intro v3 w3 ho3 hb3 hg3 hat3; rw [← HE.out] at ho3)
  go_ret
  exact ⟨_, rfl, ho3, hb3⟩
set_option maxHeartbeats 2000000 in
theorem ref03_Put_calls (s : ByteArray) (w : World) (hs : s.size ≤ 1048580) :
    Calls Tryd.prog 11 #[.string s] w fun e w' => ∃ v, e = .returned v ∧ OB w' w.heap.size v (putL (bytesOf s)) ∧ Below w.heap.size w w' := by
  have kb := fun W => print_bytes (P := Tryd.prog) 9 23 5 Tryd.underlying9 Tryd.underlying23 Tryd.underlying5 s W
  have hb4 := bytes_below (Below.refl w.heap.size w) (Nat.le_refl _) 5 s
  have hr4 : RB (Lib.bytesWorld w 5 s) (some ⟨w.heap.size, 0, none⟩) (bytesOf s) :=
    Kd.C_of_reads (d := (0 : Int)) (h1 := fun _ => rfl) (by have := bytes_reads w 5 s (by omega); rw [← bytesOf_length] at this; exact this)
  have hcall := ref02_Put_calls (some ⟨w.heap.size, 0, none⟩) (grownCap w s.size 0 5) (bytesOf s) (Lib.bytesWorld w 5 s) hr4 (by rw [bytesOf_length]; exact grownCap_ge _ _ _ _) (by rw [bytesOf_length]; exact hs)
  rw [bytesOf_length] at hcall
  have HB4 := Aside0.mk hb4
  have HC := Aside0.mk hcall
  clear hb4 hr4 hcall
  go_enter Tryd.func11, Tryd.ntmps11
  go_wp2_with fail
  refine HC.out.mono ?_
  rintro e w5 ⟨v5, rfl, ho5, hb5⟩
  obtain ⟨A5, c5, rfl⟩ := Kd.R_slice ho5
  have HO := Aside0.mk (Kd.R_lower ho5 HB4.out.size)
  have HB := Aside0.mk (below_then HB4.out HB4.out.size hb5)
  clear ho5 hb5
  go_wp2
  go_ret
  exact ⟨_, rfl, HO.out, HB.out⟩
set_option maxHeartbeats 2000000 in
theorem ref03_has_calls (s : ByteArray) (x : Int) (w : World) (hs : s.size ≤ 9223372036854775807) :
    Calls Tryd.prog 41 #[.string s, .int .u8 x] w fun e w' => e = .returned (.bool (hasB s x)) ∧ w = w' := by
  have hx : ∀ k : Nat, (h : k < s.size) → (bytesOf s)[k]'(by rw [bytesOf_length]; exact h) = (s[k].toNat : Int) := fun k h => bytesOf_get s k h
  have HX := Aside0.mk hx
  clear hx
  go_enter Tryd.func41, Tryd.ntmps41
  go_wp2
  go_loop [5] (fun v5 => ∃ k : Nat, k ≤ s.size ∧ v5 = .int .i64 k ∧ Aside0 (((bytesOf s).take k).contains x = false)) (fun v5 => s.size - (intOf v5).toNat)
  case atStart => exact ⟨0, Nat.zero_le _, rfl, ⟨by simp⟩⟩
  case round =>
    obtain ⟨k, hk, rfl, HF⟩ := hrel
    by_cases hlt : k < s.size
    · have hg := HX.out k hlt
      have hl : k < (bytesOf s).length := by rw [bytesOf_length]; exact hlt
      have HT := Aside0.mk (show (bytesOf s).take (k + 1) = (bytesOf s).take k ++ [(s[k].toNat : Int)] by rw [List.take_succ_eq_append_getElem hl, hg])
      by_cases he : (s[k].toNat : Int) = x
      · have c1 : ((s[k].toNat : Int) == x) = true := beq_iff_eq.mpr he
        have HH := Aside0.mk (show hasB s x = true by
          unfold hasB
          rw [List.contains_iff_mem, ← he, ← hg]
          exact List.getElem_mem hl)
        clear he hg hl
        go_wp2
        go_ret
        exact ⟨by rw [HH.out]; rfl, rfl⟩
      · have c1 : ((s[k].toNat : Int) == x) = false := beq_eq_false_iff_ne.mpr he
        have HF2 := Aside0.mk (show ((bytesOf s).take (k + 1)).contains x = false by
          rw [HT.out]
          have h1 := HF.out
          rw [← Bool.not_eq_true, List.contains_iff_mem] at h1 ⊢
          intro h2
          rcases List.mem_append.1 h2 with h2 | h2
          · exact h1 h2
          · exact he (List.mem_singleton.1 h2).symm)
        clear he hg hl
        go_wp2
        go_round
        case rel => exact ⟨k + 1, by omega, by go_num, HF2⟩
        case measure => simp [intOf]; omega
    · obtain rfl : k = s.size := by omega
      have HH := Aside0.mk (show hasB s x = false by
        have h1 := HF.out
        rwa [List.take_of_length_le (by rw [bytesOf_length]; exact Nat.le_refl _)] at h1)
      go_wp2
      go_ret
      exact ⟨by rw [HH.out]; rfl, rfl⟩
set_option maxHeartbeats 2000000 in
theorem ref03_Name_calls (s : ByteArray) (w : World) (hs : s.size ≤ 9223372036854775807) :
    Calls Tryd.prog 13 #[.string s] w fun e w' => e = .returned (.int .u32 (isS s 255 [0, 47])) ∧ w = w' := by
  have H0 := fun W => ref03_has_calls s 0 W hs
  have H1 := fun W => ref03_has_calls s 47 W hs
  obtain ⟨b1, hb1⟩ : ∃ b, hasB s 47 = b := ⟨_, rfl⟩
  obtain ⟨b0, hb0⟩ : ∃ b, hasB s 0 = b := ⟨_, rfl⟩
  rw [hb0] at H0
  rw [hb1] at H1
  have H1 := Aside0.mk H1
  have H0 := Aside0.mk H0
  have HI : isS s 255 [0, 47] = if ((b0 || (b1 || false)) || s.toList.isEmpty) = true then 22 else if 255 < (s.size : Int) then 63 else 0 := by
    unfold isS brk
    rw [show ([0, 47] : List Int).any (hasB s) = (hasB s 0 || (hasB s 47 || false)) from rfl, hb0, hb1, ByteArray.toList_eq]
  rw [HI]
  clear HI hb0 hb1
  cases hz : s.toList.isEmpty with
  | true =>
    rw [if_pos (by simp)]
    go_enter Tryd.func13, Tryd.ntmps13
    go_wp2
    go_ret
    exact ⟨rfl, rfl⟩
  | false =>
    by_cases hm : 255 < (s.size : Int)
    · have hm2 : decide (255 < (s.size : Int)) = true := decide_eq_true hm
      rw [if_pos hm]
      clear hm
      cases b0 <;> cases b1
      all_goals
        go_enter Tryd.func13, Tryd.ntmps13
        go_wp2_with (first | (go_at_call 41; (with_reducible refine (H0.out _).mono ?_); rintro e w' ⟨rfl, rfl⟩) | (go_at_call 41; (with_reducible refine (H1.out _).mono ?_); rintro e w' ⟨rfl, rfl⟩))
        go_ret
        exact ⟨rfl, rfl⟩
    · have hm2 : decide (255 < (s.size : Int)) = false := decide_eq_false hm
      rw [if_neg hm]
      clear hm
      cases b0 <;> cases b1
      all_goals
        go_enter Tryd.func13, Tryd.ntmps13
        go_wp2_with (first | (go_at_call 41; (with_reducible refine (H0.out _).mono ?_); rintro e w' ⟨rfl, rfl⟩) | (go_at_call 41; (with_reducible refine (H1.out _).mono ?_); rintro e w' ⟨rfl, rfl⟩))
        go_ret
        exact ⟨rfl, rfl⟩
set_option maxHeartbeats 2000000 in
theorem ref03_Path_calls (s : ByteArray) (w : World) (hs : s.size ≤ 9223372036854775807) :
    Calls Tryd.prog 15 #[.string s] w fun e w' => e = .returned (.int .u32 (isS s 1024 [0])) ∧ w = w' := by
  have H0 := fun W => ref03_has_calls s 0 W hs
  obtain ⟨b0, hb0⟩ : ∃ b, hasB s 0 = b := ⟨_, rfl⟩
  rw [hb0] at H0
  have H0 := Aside0.mk H0
  have HI : isS s 1024 [0] = if ((b0 || false) || s.toList.isEmpty) = true then 22 else if 1024 < (s.size : Int) then 63 else 0 := by
    unfold isS brk
    rw [show ([0] : List Int).any (hasB s) = (hasB s 0 || false) from rfl, hb0, ByteArray.toList_eq]
  rw [HI]
  clear HI hb0
  cases hz : s.toList.isEmpty with
  | true =>
    rw [if_pos (by simp)]
    go_enter Tryd.func15, Tryd.ntmps15
    go_wp2
    go_ret
    exact ⟨rfl, rfl⟩
  | false =>
    by_cases hm : 1024 < (s.size : Int)
    · have hm2 : decide (1024 < (s.size : Int)) = true := decide_eq_true hm
      rw [if_pos hm]
      clear hm
      cases b0
      all_goals
        go_enter Tryd.func15, Tryd.ntmps15
        go_wp2_with (first | (go_at_call 41; (with_reducible refine (H0.out _).mono ?_); rintro e w' ⟨rfl, rfl⟩))
        go_ret
        exact ⟨rfl, rfl⟩
    · have hm2 : decide (1024 < (s.size : Int)) = false := decide_eq_false hm
      rw [if_neg hm]
      clear hm
      cases b0
      all_goals
        go_enter Tryd.func15, Tryd.ntmps15
        go_wp2_with (first | (go_at_call 41; (with_reducible refine (H0.out _).mono ?_); rintro e w' ⟨rfl, rfl⟩))
        go_ret
        exact ⟨rfl, rfl⟩
end Go.Proofs.YtncplnobmiljfaaDoor.Hand
