import Derived.Test.YtncplnobmiljfaaDoorH7
namespace Go.Proofs.YtncplnobmiljfaaDoor.Hand
open Go.RowKit Go.Proofs.YtncplnobmiljfaaDoorW.PrintWords Go.Proofs.YtncplnobmiljfaaDoorW.PrintLast Go.Proofs.YtncplnobmiljfaaDoorW.PrintMore
set_option linter.unusedVariables false
set_option linter.unusedSimpArgs false

/-! ### The references of the first chapters answer as the program's functions do -/
theorem info_tb4 : ∃ i, Tryd.prog.info? 5 = some i ∧ i.size = 1 := Option.map_eq_some_iff.1 (show (Tryd.prog.info? 5).map (·.size) = some 1 by kernel_rfl)
/-- 'xs[m:]', without a case on the capacity. -/
theorem from4_ (A : Option Addr) (l : List Int) (c m : Nat) (x : Int) (hx : x = m) (hm : m ≤ l.length) (hc : l.length ≤ c) :
    ∃ A' : Option Addr, (∀ W : World, (Instr.slice 23 (.slice A l.length c) (some (.int .i64 x)) none none).run Tryd.prog W = .ok (.slice A' (l.length - m) (c - m)) W) ∧ ∀ W, RB W A l → RB W A' (l.drop m) := by
  subst hx
  obtain ⟨i, hi, hs⟩ := info_tb4
  obtain ⟨A', h1, h2⟩ := print_cut (P := Tryd.prog) 23 5 .i64 Tryd.underlying23 hi hs A l.length c m hm
  refine ⟨A', h1, fun W h => ?_⟩
  have := h2 W .u8 l hc (Kd.reads_of_C (d := (0 : Int)) h)
  refine Kd.C_of_reads (d := (0 : Int)) (h1 := fun _ => rfl) ?_
  rw [List.length_drop]; exact this
theorem deB_step (l : List Int) (i : Nat) (hb : byteOk (l.take 4) = true) (hi : i < 4) (hl : 4 ≤ l.length) :
    0 ≤ deB (l.take i) ∧ deB (l.take i) < 16777216 ∧ ∃ h : i < l.length, 0 ≤ l[i] ∧ l[i] < 256 ∧ deB (l.take (i + 1)) = deB (l.take i) * 256 + l[i] := by
  have hb2 : byteOk (l.take i) = true := by
    have := byteOk_take hb i
    rwa [List.take_take, Nat.min_eq_left (by omega)] at this
  have hr := deB_range i (l.take i) (by rw [List.length_take]; omega) hb2
  have hp : (256 : Int) ^ i ≤ 16777216 := by
    have : i = 0 ∨ i = 1 ∨ i = 2 ∨ i = 3 := by omega
    rcases this with rfl | rfl | rfl | rfl <;> decide
  have hm : l[i]'(by omega) ∈ l.take 4 := by
    rw [List.mem_take_iff_getElem]
    exact ⟨i, by omega, rfl⟩
  have h2 := byteOk_mem hb hm
  exact ⟨hr.1, by omega, by omega, h2.1, h2.2, deB_take_succ l i (by omega)⟩
set_option maxHeartbeats 1000000 in
theorem ref01_Get_calls (A : Option Addr) (c : Nat) (l : List Int) (w : World) (hA : RB w A l) (hc : l.length ≤ c) (hb : byteOk (l.take 4) = true) :
    Calls Tryd.prog 81 #[.slice A l.length c] w fun e w' => e = .returned (.tuple #[.int .u32 (if l.length < 4 then 0 else deB (l.take 4)), .int .i64 (if l.length < 4 then 4 else 0)]) ∧ w = w' := by
  have HA := Aside0.mk hA
  clear hA
  by_cases h4 : l.length < 4
  · rw [if_pos h4, if_pos h4]
    have c4 : decide ((l.length : Int) < 4) = true := by simp; omega
    clear h4
    go_enter Tryd.func81, Tryd.ntmps81
    go_wp2
    go_ret2
    exact ⟨rfl, rfl⟩
  · rw [if_neg h4, if_neg h4]
    have c4 : decide ((l.length : Int) < 4) = false := by simp; omega
    have h4' : 4 ≤ l.length := by omega
    clear h4
    go_enter Tryd.func81, Tryd.ntmps81
    go_wp2
    go_loop [4, 5] (fun v4 v5 => ∃ k : Nat, k ≤ 4 ∧ v5 = .int .i64 k ∧ v4 = .int .u32 (deB (l.take k))) (fun _ v5 => 4 - (intOf v5).toNat)
    case atStart => exact ⟨0, by omega, rfl, rfl⟩
    case round =>
      obtain ⟨k, hk, rfl, rfl⟩ := hrel
      by_cases hlt : k < 4
      · obtain ⟨h0, h1, hi, h2, h3, h5⟩ := deB_step l k hb hlt h4'
        obtain ⟨ad, rfl, hcell⟩ := Kd.at_int HA.out (k : Int) (by omega) (by omega)
        have hrd : rd l (k : Int) = l[k] := by unfold rd; rw [Int.toNat_natCast, List.getD_eq_getElem?_getD, List.getElem?_eq_getElem hi]; rfl
        rw [hrd, Int.toNat_natCast] at hcell
        have H5 := Aside0.mk h5
        obtain ⟨d, hd⟩ : ∃ d, deB (l.take k) = d := ⟨_, rfl⟩
        obtain ⟨b, hbb⟩ : ∃ b, l[k] = b := ⟨_, rfl⟩
        rw [hd, hbb] at H5
        rw [hbb] at hcell h2 h3
        rw [hd] at h0 h1 ⊢
        clear hrd hd hbb h5
        go_wp2
        go_round
        case rel =>
          refine ⟨k + 1, by omega, by go_num, ?_⟩
          rw [H5.out]
          congr 1
          omega
        case measure => simp [intOf]; omega
      · obtain rfl : k = 4 := by omega
        go_wp2
        go_ret2
        exact ⟨rfl, rfl⟩
set_option maxHeartbeats 1000000 in
theorem ref02_Pad_calls (n : Int) (w : World) (hn : n ≤ 9223372036854775807) :
    Calls Tryd.prog 118 #[.int .i64 n] w fun e w' => e = .returned (.int .i64 (padI n)) ∧ w = w' := by
  by_cases h0 : n < 0
  · have e : padI n = 0 := by unfold padI; rw [if_pos h0]
    rw [e]
    have c0 : decide (0 ≤ n) = false := decide_eq_false (by omega)
    clear h0 e
    go_enter Tryd.func118, Tryd.ntmps118
    go_wp2
    go_loop [3] (fun v3 => v3 = .int .i64 0) (fun _ => 0)
    case atStart => exact rfl
    case round =>
      subst hrel
      go_wp2
      go_ret
      exact ⟨rfl, rfl⟩
  · have hn0 : 0 ≤ n := by omega
    have c0 : decide (0 ≤ n) = true := decide_eq_true hn0
    obtain ⟨q, hq⟩ : ∃ q : Nat, padI n = q := ⟨(padI n).toNat, by have := padI_range n; omega⟩
    have hq3 : q ≤ 3 ∧ (n + q) % 4 = 0 := by have := padI_range n; refine ⟨by omega, ?_⟩; unfold padI at hq; rw [if_neg h0] at hq; omega
    rw [hq]
    clear h0 hq
    go_enter Tryd.func118, Tryd.ntmps118
    go_wp2
    go_loop [3] (fun v3 => ∃ k : Nat, k ≤ q ∧ v3 = .int .i64 k) (fun v3 => q - (intOf v3).toNat)
    case atStart => exact ⟨0, by omega, rfl⟩
    case round =>
      obtain ⟨k, hk, rfl⟩ := hrel
      by_cases hlt : k < q
      · have c1 : ((n % 4 + (k : Int)) % 4 != 0) = true := by simp; omega
        go_wp2
        go_round
        case rel => exact ⟨k + 1, by omega, by go_num⟩
        case measure => simp [intOf]; omega
      · obtain rfl : k = q := by omega
        have c1 : ((n % 4 + (k : Int)) % 4 != 0) = false := by simp; omega
        go_wp2
        go_ret
        exact ⟨rfl, rfl⟩
/-- So many bytes, without their padding; how many in all; an error. -/
def fixR (l : List Int) (n : Nat) : List Int × Int × Int := if cutS l n = 0 then (l.take n, n + padI n, 0) else ([], 0, cutS l n)
set_option maxHeartbeats 4000000 in
theorem ref02_fixed_calls (A : Option Addr) (c : Nat) (l : List Int) (n : Nat) (w : World) (hA : RB w A l) (hc : l.length ≤ c) (hn : n ≤ 4294967296) (hl : l.length ≤ 140737488351232) :
    Calls Tryd.prog 116 #[.slice A l.length c, .int .i64 n] w fun e w' => ∃ v, e = .returned (.tuple #[v, .int .i64 (fixR l n).2.1, .int .i64 (fixR l n).2.2]) ∧ OB w' w.heap.size v (fixR l n).1 ∧ Below w.heap.size w w' := by
  obtain ⟨q, hq⟩ : ∃ q : Nat, padI n = q := ⟨(padI n).toNat, by have := padI_range n; omega⟩
  have hq3 : q ≤ 3 := by have := padI_range n; omega
  have HQ := Aside0.mk hq
  have HA := Aside0.mk hA
  have HC := Aside0.mk hc
  have hpad := fun W => ref02_Pad_calls (n : Int) W (by omega)
  rw [hq] at hpad
  have HP := Aside0.mk hpad
  clear hA hc hq hpad
  by_cases h0 : (l.length : Int) < n + q
  · have e : fixR l n = ([], 0, 4) := by
      have : cutS l n = 4 := by unfold cutS; rw [HQ.out, if_pos h0]
      unfold fixR; rw [this, if_neg (by omega)]
    rw [e]
    clear e
    go_enter Tryd.func116, Tryd.ntmps116
    go_wp2_with (go_at_call 118; refine (HP.out _).mono ?_; rintro e w' ⟨rfl, rfl⟩)
    go_ret3
    exact ⟨_, rfl, Kd.R_nil _ _ _ _ _, Below.refl _ _⟩
  · have H0 := Aside0.mk h0
    have hnq : n + q ≤ l.length := by omega
    have c1 : decide ((l.length : Int) < n + q) = false := decide_eq_false h0
    clear h0
    go_enter Tryd.func116, Tryd.ntmps116
    go_wp2_with (go_at_call 118; refine (HP.out _).mono ?_; rintro e w' ⟨rfl, rfl⟩)
    go_loop [8] (fun v8 => ∃ j : Nat, j ≤ q ∧ v8 = .int .i64 ((n : Int) + j) ∧ Aside0 (((l.drop n).take j).all (· == 0) = true)) (fun v8 => ((n : Int) + q - intOf v8).toNat)
    case atStart => exact ⟨0, by omega, by simp, ⟨rfl⟩⟩
    case round =>
      obtain ⟨j, hj, rfl, HZ⟩ := hrel
      by_cases hlt : j < q
      · have c2 : decide (((n : Int) + j) < (n : Int) + q) = true := by simp; omega
        have hlx : n + j < l.length := by omega
        obtain ⟨ad, rfl, hcell⟩ := Kd.at_int HA.out ((n + j : Nat) : Int) (by omega) (by omega)
        have hrd : rd l ((n + j : Nat) : Int) = l[n + j] := by unfold rd; rw [Int.toNat_natCast, List.getD_eq_getElem?_getD, List.getElem?_eq_getElem hlx]; rfl
        rw [hrd] at hcell
        simp only [Int.toNat_natCast] at hcell
        have hix : ((n : Int) + j).toNat = n + j := by omega
        have p1 : 0 ≤ (n : Int) + j := by omega
        have p2 : (n : Int) + j < l.length := by omega
        have HD := Aside0.mk (show (l.drop n).take (j + 1) = (l.drop n).take j ++ [l[n + j]] by rw [List.take_succ_eq_append_getElem (by rw [List.length_drop]; omega)]; simp)
        obtain ⟨b, hb⟩ : ∃ b, l[n + j] = b := ⟨_, rfl⟩
        rw [hb] at hcell
        have HBB := Aside0.mk hb
        clear hb hrd
        by_cases hz : b = 0
        · have c3 : (b != 0) = false := by simp [hz]
          have HZ2 := Aside0.mk (show ((l.drop n).take (j + 1)).all (· == 0) = true by rw [HD.out, List.all_append, HZ.out]; simp [HBB.out, hz])
          clear hz
          go_wp2
          go_round
          case rel => exact ⟨j + 1, by omega, by first | go_num | (congr 1; omega), HZ2⟩
          case measure => simp [intOf]; omega
        · have c3 : (b != 0) = true := by simp [hz]
          have e : fixR l n = ([], 0, 5) := by
            have : cutS l n = 5 := by
              unfold cutS
              rw [HQ.out, if_neg (by have := H0.out; omega), if_neg]
              intro hall
              rw [List.all_eq_true] at hall
              have hm : l[n + j] ∈ (l.drop n).take (q : Int).toNat := by
                rw [List.mem_take_iff_getElem]
                exact ⟨j, by simp; omega, by simp⟩
              have := hall _ hm
              rw [HBB.out] at this
              exact hz (by simpa using this)
            unfold fixR; rw [this, if_neg (by omega)]
          have HE := Aside0.mk e
          clear hz e
          go_wp2
          go_ret3
          exact ⟨_, by rw [HE.out]; rfl, by rw [HE.out]; exact Kd.R_nil _ _ _ _ _, Below.refl _ _⟩
      · obtain rfl : j = q := by omega
        have c2 : decide (((n : Int) + j) < (n : Int) + j) = false := by simp
        have e : fixR l n = (l.take n, (n : Int) + j, 0) := by
          have : cutS l n = 0 := by
            unfold cutS
            rw [HQ.out, if_neg (by have := H0.out; omega), if_pos (by simpa using HZ.out)]
          unfold fixR; rw [this, if_pos rfl, HQ.out]
        have HE := Aside0.mk e
        have hnc : n ≤ c := by have := HC.out; omega
        have hnl : n ≤ l.length := by omega
        have HT := Aside0.mk (show Kd.C (Kd.int .u8) w A (l.take n).length (l.take n) from Kd.C_take HA.out (m := n) hnl)
        have HTL := Aside0.mk (show (([] : List Int).length + (l.take n).length) * 1 ≤ 140737488355328 by rw [List.length_take, List.length_nil]; omega)
        have HLN := Aside0.mk (show (l.take n).length = n by rw [List.length_take]; omega)
        obtain ⟨y, hy⟩ : ∃ y, l.take n = y := ⟨_, rfl⟩
        rw [hy] at HE HT HTL HLN
        have hyn := HLN.out
        subst hyn
        clear e hy HZ
        go_wp2_with (at_builtin; refine Kd.R_append_row (Value.int .u8) (0 : Int) (h1 := fun _ => rfl) (w0 := w) w.heap.size rfl _ _ 23 5 (.int .u8 0) 1 rfl Tryd.underlying23 infoB rfl (by decide) _ ([] : List Int) y A _ c (fun _ => True) rfl rfl (fun _ _ => trivial) (Kd.R_nil _ _ _ _ _) HT.out (Below.refl _ _) (Nat.le_refl _) HTL.out ?_; intro v1 w1 ho1 hb1 hg1 hat1; rw [List.nil_append] at ho1; obtain ⟨A1, c1, rfl, hle, _⟩ := OB_reads ho1)
        go_ret3
        exact ⟨_, by rw [HE.out]; rfl, by rw [HE.out]; exact ho1, hb1⟩
theorem optG (l : List Int) (most : Int) (hb : byteOk l = true) : opaque_Get.f l most = some (if l.length < 4 then ([], 0, 4) else if most < deB (l.take 4) then ([], 0, 3) else if (fixR (l.drop 4) (deB (l.take 4)).toNat).2.2 = 0 then ((fixR (l.drop 4) (deB (l.take 4)).toNat).1, 4 + (fixR (l.drop 4) (deB (l.take 4)).toNat).2.1, 0) else ([], 0, (fixR (l.drop 4) (deB (l.take 4)).toNat).2.2)) := by
  unfold opaque_Get.f
  rw [if_pos (byteOk_take hb 4)]
  by_cases h4 : l.length < 4
  · rw [if_pos h4, if_pos h4]
  · rw [if_neg h4, if_neg h4]
    have hr := deB_range 4 (l.take 4) (by rw [List.length_take]; omega) (byteOk_take hb 4)
    by_cases h5 : most < deB (l.take 4)
    · rw [if_pos h5, if_pos h5]
    · rw [if_neg h5, if_neg h5]
      unfold fixR
      by_cases h6 : cutS (l.drop 4) (deB (l.take 4)).toNat = 0
      · rw [if_pos h6, if_pos h6, if_pos rfl]
        dsimp only
        rw [Int.toNat_of_nonneg hr.1, Int.add_assoc]
      · rw [if_neg h6, if_neg h6, if_neg h6]
set_option maxHeartbeats 4000000 in
theorem ref02_Get_calls (A : Option Addr) (c : Nat) (l : List Int) (most : Int) (r1 : List Int) (r2 r3 : Int) (w : World) (hA : RB w A l) (hc : l.length ≤ c) (hb : byteOk l = true) (hl : l.length ≤ 140737488351232) (h : opaque_Get.f l most = some (r1, r2, r3)) :
    Calls Tryd.prog 82 #[.slice A l.length c, .int .i64 most] w fun e w' => ∃ v, e = .returned (.tuple #[v, .int .i64 r2, .int .i64 r3]) ∧ OB w' w.heap.size v r1 ∧ Below w.heap.size w w' := by
  rw [optG l most hb] at h
  have h := Option.some.inj h
  have HA := Aside0.mk hA
  have HG := fun W (hW : RB W A l) => ref01_Get_calls A c l W hW hc (byteOk_take hb 4)
  have hr : l.length < 4 ∨ 0 ≤ deB (l.take 4) ∧ deB (l.take 4) < 4294967296 := by
    by_cases h4 : l.length < 4
    · exact .inl h4
    · exact .inr (deB_range 4 (l.take 4) (by rw [List.length_take]; omega) (byteOk_take hb 4))
  clear hA
  by_cases h4 : l.length < 4
  · rw [if_pos h4] at h
    obtain ⟨rfl, rfl, rfl⟩ : [] = r1 ∧ 0 = r2 ∧ 4 = r3 := by simpa using h
    simp only [if_pos h4] at HG
    have HG := Aside0.mk HG
    clear h hr
    go_enter Tryd.func82, Tryd.ntmps82
    go_wp2_with (go_at_call 81; refine (HG.out _ HA.out).mono ?_; rintro e w' ⟨rfl, rfl⟩)
    go_ret3
    exact ⟨_, rfl, Kd.R_nil _ _ _ _ _, Below.refl _ _⟩
  · rw [if_neg h4] at h
    simp only [if_neg h4] at HG
    have HG := Aside0.mk HG
    obtain ⟨n, hn⟩ := Int.eq_ofNat_of_zero_le (hr.resolve_left h4).1
    have hn2 := (hr.resolve_left h4).2
    rw [hn] at h hn2
    have HG2 : Aside0 (∀ W, RB W A l → Calls Tryd.prog 81 #[.slice A l.length c] W fun e w' => e = .returned (.tuple #[.int .u32 n, .int .i64 0]) ∧ W = w') := by rw [hn] at HG; exact HG
    have h4' : 4 ≤ l.length := by omega
    rw [Int.toNat_natCast] at h
    clear hr HG hn h4
    by_cases h5 : most < (n : Int)
    · rw [if_pos h5] at h
      obtain ⟨rfl, rfl, rfl⟩ : [] = r1 ∧ 0 = r2 ∧ 3 = r3 := by simpa using h
      have c5 : decide (most < (n : Int)) = true := decide_eq_true h5
      clear h h5
      go_enter Tryd.func82, Tryd.ntmps82
      go_wp2_with (go_at_call 81; refine (HG2.out _ HA.out).mono ?_; rintro e w' ⟨rfl, rfl⟩)
      go_ret3
      exact ⟨_, rfl, Kd.R_nil _ _ _ _ _, Below.refl _ _⟩
    · rw [if_neg h5] at h
      have c5 : decide (most < (n : Int)) = false := decide_eq_false h5
      obtain ⟨A4, hcut, hR4⟩ := from4_ A l c 4 4 rfl h4' hc
      have HR4 := Aside0.mk hR4
      have HF := fun W (hW : RB W A4 (l.drop 4)) => ref02_fixed_calls A4 (c - 4) (l.drop 4) n W hW (by rw [List.length_drop]; omega) (by omega) (by rw [List.length_drop]; omega)
      rw [List.length_drop] at HF
      obtain ⟨z, hz⟩ : ∃ z, fixR (l.drop 4) n = z := ⟨_, rfl⟩
      rw [hz] at h HF
      have hz1 : z.2.2 = 0 → 0 ≤ z.2.1 ∧ z.2.1 < 9000000000 := by
        intro hz0
        have hp := padI_range n
        rw [← hz] at hz0 ⊢
        unfold fixR at hz0 ⊢
        by_cases h7 : cutS (l.drop 4) n = 0
        · rw [if_pos h7]; dsimp only; omega
        · rw [if_neg h7] at hz0; exact absurd hz0 h7
      have HF := Aside0.mk HF
      clear hz h5 hR4
      by_cases h6 : z.2.2 = 0
      · rw [if_pos h6] at h
        obtain ⟨rfl, rfl, rfl⟩ : z.1 = r1 ∧ 4 + z.2.1 = r2 ∧ 0 = r3 := by simpa using h
        have c6 : (z.2.2 != 0) = false := by simp [h6]
        have hzz := hz1 h6
        obtain ⟨z0, z1⟩ := hzz
        clear h hz1 h6
        go_enter Tryd.func82, Tryd.ntmps82
        go_wp2_with (first | (go_at_call 81; refine (HG2.out _ HA.out).mono ?_; rintro e w' ⟨rfl, rfl⟩) | (go_at_call 116; refine (HF.out _ (HR4.out _ HA.out)).mono ?_; rintro e w1 ⟨v, rfl, ho, hb1⟩))
        go_ret3
        exact ⟨_, rfl, ho, hb1⟩
      · rw [if_neg h6] at h
        obtain ⟨rfl, rfl, rfl⟩ : [] = r1 ∧ 0 = r2 ∧ z.2.2 = r3 := by simpa using h
        have c6 : (z.2.2 != 0) = true := by simp [h6]
        clear h h6 hz1
        go_enter Tryd.func82, Tryd.ntmps82
        go_wp2_with (first | (go_at_call 81; refine (HG2.out _ HA.out).mono ?_; rintro e w' ⟨rfl, rfl⟩) | (go_at_call 116; refine (HF.out _ (HR4.out _ HA.out)).mono ?_; rintro e w1 ⟨v, rfl, ho, hb1⟩))
        go_ret3
        exact ⟨_, rfl, Kd.R_nil _ _ _ _ _, hb1⟩
end Go.Proofs.YtncplnobmiljfaaDoor.Hand
