import Derived.Test.YtoalknneifpehaaDoorH7
import Derived.Test.YtoalknneifpehaaDoorQ02
import Derived.Test.YtoalknneifpehaaDoorQ03
import Derived.Laws.MakeOwn
import Derived.Test.YtoalknneifpehaaDoorS2
import Derived.Test.YtoalknneifpehaaDoorQ03
import Derived.Test.YtoalknneifpehaaDoorH5
import Derived.Test.YtoalknneifpehaaDoorGC1
import Derived.Test.YtoalknneifpehaaDoorC2
import Derived.Deep.RegionHeld3
namespace Go.Proofs.YtoalknneifpehaaDoor.Hand
open Go.RowKit Go.Proofs.YtoalknneifpehaaDoorW.PrintWords Go.Proofs.YtoalknneifpehaaDoorW.PrintLast Go.Proofs.YtoalknneifpehaaDoorW.PrintMore Go.Proofs.YtoalknneifpehaaDoor.GB
set_option linter.unusedVariables false
set_option linter.unusedSimpArgs false

/-! ### The references of the first chapters answer as the program's functions do -/
theorem info_tb4 : ∃ i, Tryd.prog.info? 5 = some i ∧ i.size = 1 := Option.map_eq_some_iff.1 (show (Tryd.prog.info? 5).map (·.size) = some 1 by kernel_rfl)
/-- 'xs[m:]', without a case on the capacity. -/
theorem from4_ (A : Option Addr) (l : List Int) (c m : Nat) (x : Int) (hx : x = m) (hm : m ≤ l.length) (hc : l.length ≤ c) :
    ∃ A' : Option Addr, (∀ W : World, (Instr.slice 26 (.slice A l.length c) (some (.int .i64 x)) none none).run Tryd.prog W = .ok (.slice A' (l.length - m) (c - m)) W) ∧ ∀ W, RB W A l → RB W A' (l.drop m) := by
  subst hx
  obtain ⟨i, hi, hs⟩ := info_tb4
  obtain ⟨A', h1, h2⟩ := print_cut (P := Tryd.prog) 26 5 .i64 Tryd.underlying26 hi hs A l.length c m hm
  refine ⟨A', h1, fun W h => ?_⟩
  have := h2 W .u8 l hc (Kd.reads_of_C (d := (0 : Int)) h)
  refine Kd.C_of_reads (d := (0 : Int)) (h1 := fun _ => rfl) ?_
  rw [List.length_drop]; exact this
theorem deB_step (l : List Int) (i : Nat) (hb : byteOk (l.take 4) = true) (hi : i < 4) (hl : 4 ≤ l.length) :
    0 ≤ deB (l.take i) ∧ deB (l.take i) < 16777216 ∧ ∃ h : i < l.length, 0 ≤ l[i] ∧ l[i] < 256 ∧ deB (l.take (i + 1)) = deB (l.take i) * 256 + l[i] := by
  have hb2 : byteOk (l.take i) = true := by
    have := byteOk_take hb i
    rwa [List.take_take, Nat.min_eq_left (by omega)] at this
  have hr := deB_range i (l.take i) (by rw [List.length_take]; omega) hb2
  have hp : (256 : Int) ^ i ≤ 16777216 := by
    have : i = 0 ∨ i = 1 ∨ i = 2 ∨ i = 3 := by omega
    rcases this with rfl | rfl | rfl | rfl <;> decide
  have hm : l[i]'(by omega) ∈ l.take 4 := by
    rw [List.mem_take_iff_getElem]
    exact ⟨i, by omega, rfl⟩
  have h2 := byteOk_mem hb hm
  exact ⟨hr.1, by omega, by omega, h2.1, h2.2, deB_take_succ l i (by omega)⟩
set_option maxHeartbeats 1000000 in
theorem ref01_Get_calls (A : Option Addr) (c : Nat) (l : List Int) (w : World) (hA : RB w A l) (hc : l.length ≤ c) (hb : byteOk (l.take 4) = true) :
    Calls Tryd.prog 55 #[.slice A l.length c] w fun e w' => e = .returned (.tuple #[.int .u32 (if l.length < 4 then 0 else deB (l.take 4)), .int .i64 (if l.length < 4 then 4 else 0)]) ∧ w = w' := by
  have HA := Aside0.mk hA
  clear hA
  by_cases h4 : l.length < 4
  · rw [if_pos h4, if_pos h4]
    have c4 : decide ((l.length : Int) < 4) = true := by simp; omega
    clear h4
    go_enter Tryd.func55, Tryd.ntmps55
    go_wp2
    go_ret2
    exact ⟨rfl, rfl⟩
  · rw [if_neg h4, if_neg h4]
    have c4 : decide ((l.length : Int) < 4) = false := by simp; omega
    have h4' : 4 ≤ l.length := by omega
    clear h4
    go_enter Tryd.func55, Tryd.ntmps55
    go_wp2
    go_loop [4, 5] (fun v4 v5 => ∃ k : Nat, k ≤ 4 ∧ v5 = .int .i64 k ∧ v4 = .int .u32 (deB (l.take k))) (fun _ v5 => 4 - (intOf v5).toNat)
    case atStart => exact ⟨0, by omega, rfl, rfl⟩
    case round =>
      obtain ⟨k, hk, rfl, rfl⟩ := hrel
      by_cases hlt : k < 4
      · obtain ⟨h0, h1, hi, h2, h3, h5⟩ := deB_step l k hb hlt h4'
        obtain ⟨ad, rfl, hcell⟩ := Kd.at_int HA.out (k : Int) (by omega) (by omega)
        have hrd : rd l (k : Int) = l[k] := by unfold rd; rw [Int.toNat_natCast, List.getD_eq_getElem?_getD, List.getElem?_eq_getElem hi]; rfl
        rw [hrd, Int.toNat_natCast] at hcell
        have H5 := Aside0.mk h5
        obtain ⟨d, hd⟩ : ∃ d, deB (l.take k) = d := ⟨_, rfl⟩
        obtain ⟨b, hbb⟩ : ∃ b, l[k] = b := ⟨_, rfl⟩
        rw [hd, hbb] at H5
        rw [hbb] at hcell h2 h3
        rw [hd] at h0 h1 ⊢
        clear hrd hd hbb h5
        go_wp2
        go_round
        case rel =>
          refine ⟨k + 1, by omega, by go_num, ?_⟩
          rw [H5.out]
          congr 1
          omega
        case measure => simp [intOf]; omega
      · obtain rfl : k = 4 := by omega
        go_wp2
        go_ret2
        exact ⟨rfl, rfl⟩
set_option maxHeartbeats 1000000 in
theorem ref02_Pad_calls (n : Int) (w : World) (hn : n ≤ 9223372036854775807) :
    Calls Tryd.prog 100 #[.int .i64 n] w fun e w' => e = .returned (.int .i64 (padI n)) ∧ w = w' := by
  by_cases h0 : n < 0
  · have e : padI n = 0 := by unfold padI; rw [if_pos h0]
    rw [e]
    have c0 : decide (0 ≤ n) = false := decide_eq_false (by omega)
    clear h0 e
    go_enter Tryd.func100, Tryd.ntmps100
    go_wp2
    go_loop [3] (fun v3 => v3 = .int .i64 0) (fun _ => 0)
    case atStart => exact rfl
    case round =>
      subst hrel
      go_wp2
      go_ret
      exact ⟨rfl, rfl⟩
  · have hn0 : 0 ≤ n := by omega
    have c0 : decide (0 ≤ n) = true := decide_eq_true hn0
    obtain ⟨q, hq⟩ : ∃ q : Nat, padI n = q := ⟨(padI n).toNat, by have := padI_range n; omega⟩
    have hq3 : q ≤ 3 ∧ (n + q) % 4 = 0 := by have := padI_range n; refine ⟨by omega, ?_⟩; unfold padI at hq; rw [if_neg h0] at hq; omega
    rw [hq]
    clear h0 hq
    go_enter Tryd.func100, Tryd.ntmps100
    go_wp2
    go_loop [3] (fun v3 => ∃ k : Nat, k ≤ q ∧ v3 = .int .i64 k) (fun v3 => q - (intOf v3).toNat)
    case atStart => exact ⟨0, by omega, rfl⟩
    case round =>
      obtain ⟨k, hk, rfl⟩ := hrel
      by_cases hlt : k < q
      · have c1 : ((n % 4 + (k : Int)) % 4 != 0) = true := by simp; omega
        go_wp2
        go_round
        case rel => exact ⟨k + 1, by omega, by go_num⟩
        case measure => simp [intOf]; omega
      · obtain rfl : k = q := by omega
        have c1 : ((n % 4 + (k : Int)) % 4 != 0) = false := by simp; omega
        go_wp2
        go_ret
        exact ⟨rfl, rfl⟩
/-- So many bytes, without their padding; how many in all; an error. -/
def fixR (l : List Int) (n : Nat) : List Int × Int × Int := if cutS l n = 0 then (l.take n, n + padI n, 0) else ([], 0, cutS l n)
set_option maxHeartbeats 4000000 in
theorem ref02_fixed_calls (A : Option Addr) (c : Nat) (l : List Int) (n : Nat) (w : World) (hA : RB w A l) (hc : l.length ≤ c) (hn : n ≤ 4294967296) (hl : l.length ≤ 140737488351232) :
    Calls Tryd.prog 94 #[.slice A l.length c, .int .i64 n] w fun e w' => ∃ v, e = .returned (.tuple #[v, .int .i64 (fixR l n).2.1, .int .i64 (fixR l n).2.2]) ∧ OB w' w.heap.size v (fixR l n).1 ∧ Below w.heap.size w w' := by
  obtain ⟨q, hq⟩ : ∃ q : Nat, padI n = q := ⟨(padI n).toNat, by have := padI_range n; omega⟩
  have hq3 : q ≤ 3 := by have := padI_range n; omega
  have HQ := Aside0.mk hq
  have HA := Aside0.mk hA
  have HC := Aside0.mk hc
  have hpad := fun W => ref02_Pad_calls (n : Int) W (by omega)
  rw [hq] at hpad
  have HP := Aside0.mk hpad
  clear hA hc hq hpad
  by_cases h0 : (l.length : Int) < n + q
  · have e : fixR l n = ([], 0, 4) := by
      have : cutS l n = 4 := by unfold cutS; rw [HQ.out, if_pos h0]
      unfold fixR; rw [this, if_neg (by omega)]
    rw [e]
    clear e
    go_enter Tryd.func94, Tryd.ntmps94
    go_wp2_with (go_at_call 100; refine (HP.out _).mono ?_; rintro e w' ⟨rfl, rfl⟩)
    go_ret3
    exact ⟨_, rfl, Kd.R_nil _ _ _ _ _, Below.refl _ _⟩
  · have H0 := Aside0.mk h0
    have hnq : n + q ≤ l.length := by omega
    have c1 : decide ((l.length : Int) < n + q) = false := decide_eq_false h0
    clear h0
    go_enter Tryd.func94, Tryd.ntmps94
    go_wp2_with (go_at_call 100; refine (HP.out _).mono ?_; rintro e w' ⟨rfl, rfl⟩)
    go_loop [8] (fun v8 => ∃ j : Nat, j ≤ q ∧ v8 = .int .i64 ((n : Int) + j) ∧ Aside0 (((l.drop n).take j).all (· == 0) = true)) (fun v8 => ((n : Int) + q - intOf v8).toNat)
    case atStart => exact ⟨0, by omega, by simp, ⟨rfl⟩⟩
    case round =>
      obtain ⟨j, hj, rfl, HZ⟩ := hrel
      by_cases hlt : j < q
      · have c2 : decide (((n : Int) + j) < (n : Int) + q) = true := by simp; omega
        have hlx : n + j < l.length := by omega
        obtain ⟨ad, rfl, hcell⟩ := Kd.at_int HA.out ((n + j : Nat) : Int) (by omega) (by omega)
        have hrd : rd l ((n + j : Nat) : Int) = l[n + j] := by unfold rd; rw [Int.toNat_natCast, List.getD_eq_getElem?_getD, List.getElem?_eq_getElem hlx]; rfl
        rw [hrd] at hcell
        simp only [Int.toNat_natCast] at hcell
        have hix : ((n : Int) + j).toNat = n + j := by omega
        have p1 : 0 ≤ (n : Int) + j := by omega
        have p2 : (n : Int) + j < l.length := by omega
        have HD := Aside0.mk (show (l.drop n).take (j + 1) = (l.drop n).take j ++ [l[n + j]] by rw [List.take_succ_eq_append_getElem (by rw [List.length_drop]; omega)]; simp)
        obtain ⟨b, hb⟩ : ∃ b, l[n + j] = b := ⟨_, rfl⟩
        rw [hb] at hcell
        have HBB := Aside0.mk hb
        clear hb hrd
        by_cases hz : b = 0
        · have c3 : (b != 0) = false := by simp [hz]
          have HZ2 := Aside0.mk (show ((l.drop n).take (j + 1)).all (· == 0) = true by rw [HD.out, List.all_append, HZ.out]; simp [HBB.out, hz])
          clear hz
          go_wp2
          go_round
          case rel => exact ⟨j + 1, by omega, by first | go_num | (congr 1; omega), HZ2⟩
          case measure => simp [intOf]; omega
        · have c3 : (b != 0) = true := by simp [hz]
          have e : fixR l n = ([], 0, 5) := by
            have : cutS l n = 5 := by
              unfold cutS
              rw [HQ.out, if_neg (by have := H0.out; omega), if_neg]
              intro hall
              rw [List.all_eq_true] at hall
              have hm : l[n + j] ∈ (l.drop n).take (q : Int).toNat := by
                rw [List.mem_take_iff_getElem]
                exact ⟨j, by simp; omega, by simp⟩
              have := hall _ hm
              rw [HBB.out] at this
              exact hz (by simpa using this)
            unfold fixR; rw [this, if_neg (by omega)]
          have HE := Aside0.mk e
          clear hz e
          go_wp2
          go_ret3
          exact ⟨_, by rw [HE.out]; rfl, by rw [HE.out]; exact Kd.R_nil _ _ _ _ _, Below.refl _ _⟩
      · obtain rfl : j = q := by omega
        have c2 : decide (((n : Int) + j) < (n : Int) + j) = false := by simp
        have e : fixR l n = (l.take n, (n : Int) + j, 0) := by
          have : cutS l n = 0 := by
            unfold cutS
            rw [HQ.out, if_neg (by have := H0.out; omega), if_pos (by simpa using HZ.out)]
          unfold fixR; rw [this, if_pos rfl, HQ.out]
        have HE := Aside0.mk e
        have hnc : n ≤ c := by have := HC.out; omega
        have hnl : n ≤ l.length := by omega
        have HT := Aside0.mk (show Kd.C (Kd.int .u8) w A (l.take n).length (l.take n) from Kd.C_take HA.out (m := n) hnl)
        have HTL := Aside0.mk (show (([] : List Int).length + (l.take n).length) * 1 ≤ 140737488355328 by rw [List.length_take, List.length_nil]; omega)
        have HLN := Aside0.mk (show (l.take n).length = n by rw [List.length_take]; omega)
        obtain ⟨y, hy⟩ : ∃ y, l.take n = y := ⟨_, rfl⟩
        rw [hy] at HE HT HTL HLN
        have hyn := HLN.out
        subst hyn
        clear e hy HZ
        go_wp2_with (at_builtin; refine Kd.R_append_row (Value.int .u8) (0 : Int) (h1 := fun _ => rfl) (w0 := w) w.heap.size rfl _ _ 26 5 (.int .u8 0) 1 rfl Tryd.underlying26 infoB rfl (by decide) _ ([] : List Int) y A _ c (fun _ => True) rfl rfl (fun _ _ => trivial) (Kd.R_nil _ _ _ _ _) HT.out (Below.refl _ _) (Nat.le_refl _) HTL.out ?_; intro v1 w1 ho1 hb1 hg1 hat1; rw [List.nil_append] at ho1; obtain ⟨A1, c1, rfl, hle, _⟩ := OB_reads ho1)
        go_ret3
        exact ⟨_, by rw [HE.out]; rfl, by rw [HE.out]; exact ho1, hb1⟩
theorem optG (l : List Int) (most : Int) (hb : byteOk l = true) : opaque_Get.f l most = some (if l.length < 4 then ([], 0, 4) else if most < deB (l.take 4) then ([], 0, 3) else if (fixR (l.drop 4) (deB (l.take 4)).toNat).2.2 = 0 then ((fixR (l.drop 4) (deB (l.take 4)).toNat).1, 4 + (fixR (l.drop 4) (deB (l.take 4)).toNat).2.1, 0) else ([], 0, (fixR (l.drop 4) (deB (l.take 4)).toNat).2.2)) := by
  unfold opaque_Get.f
  rw [if_pos (byteOk_take hb 4)]
  by_cases h4 : l.length < 4
  · rw [if_pos h4, if_pos h4]
  · rw [if_neg h4, if_neg h4]
    have hr := deB_range 4 (l.take 4) (by rw [List.length_take]; omega) (byteOk_take hb 4)
    by_cases h5 : most < deB (l.take 4)
    · rw [if_pos h5, if_pos h5]
    · rw [if_neg h5, if_neg h5]
      unfold fixR
      by_cases h6 : cutS (l.drop 4) (deB (l.take 4)).toNat = 0
      · rw [if_pos h6, if_pos h6, if_pos rfl]
        dsimp only
        rw [Int.toNat_of_nonneg hr.1, Int.add_assoc]
      · rw [if_neg h6, if_neg h6, if_neg h6]
set_option maxHeartbeats 4000000 in
theorem ref02_Get_calls (A : Option Addr) (c : Nat) (l : List Int) (most : Int) (r1 : List Int) (r2 r3 : Int) (w : World) (hA : RB w A l) (hc : l.length ≤ c) (hb : byteOk l = true) (hl : l.length ≤ 140737488351232) (h : opaque_Get.f l most = some (r1, r2, r3)) :
    Calls Tryd.prog 56 #[.slice A l.length c, .int .i64 most] w fun e w' => ∃ v, e = .returned (.tuple #[v, .int .i64 r2, .int .i64 r3]) ∧ OB w' w.heap.size v r1 ∧ Below w.heap.size w w' := by
  rw [optG l most hb] at h
  have h := Option.some.inj h
  have HA := Aside0.mk hA
  have HG := fun W (hW : RB W A l) => ref01_Get_calls A c l W hW hc (byteOk_take hb 4)
  have hr : l.length < 4 ∨ 0 ≤ deB (l.take 4) ∧ deB (l.take 4) < 4294967296 := by
    by_cases h4 : l.length < 4
    · exact .inl h4
    · exact .inr (deB_range 4 (l.take 4) (by rw [List.length_take]; omega) (byteOk_take hb 4))
  clear hA
  by_cases h4 : l.length < 4
  · rw [if_pos h4] at h
    obtain ⟨rfl, rfl, rfl⟩ : [] = r1 ∧ 0 = r2 ∧ 4 = r3 := by simpa using h
    simp only [if_pos h4] at HG
    have HG := Aside0.mk HG
    clear h hr
    go_enter Tryd.func56, Tryd.ntmps56
    go_wp2_with (go_at_call 55; refine (HG.out _ HA.out).mono ?_; rintro e w' ⟨rfl, rfl⟩)
    go_ret3
    exact ⟨_, rfl, Kd.R_nil _ _ _ _ _, Below.refl _ _⟩
  · rw [if_neg h4] at h
    simp only [if_neg h4] at HG
    have HG := Aside0.mk HG
    obtain ⟨n, hn⟩ := Int.eq_ofNat_of_zero_le (hr.resolve_left h4).1
    have hn2 := (hr.resolve_left h4).2
    rw [hn] at h hn2
    have HG2 : Aside0 (∀ W, RB W A l → Calls Tryd.prog 55 #[.slice A l.length c] W fun e w' => e = .returned (.tuple #[.int .u32 n, .int .i64 0]) ∧ W = w') := by rw [hn] at HG; exact HG
    have h4' : 4 ≤ l.length := by omega
    rw [Int.toNat_natCast] at h
    clear hr HG hn h4
    by_cases h5 : most < (n : Int)
    · rw [if_pos h5] at h
      obtain ⟨rfl, rfl, rfl⟩ : [] = r1 ∧ 0 = r2 ∧ 3 = r3 := by simpa using h
      have c5 : decide (most < (n : Int)) = true := decide_eq_true h5
      clear h h5
      go_enter Tryd.func56, Tryd.ntmps56
      go_wp2_with (go_at_call 55; refine (HG2.out _ HA.out).mono ?_; rintro e w' ⟨rfl, rfl⟩)
      go_ret3
      exact ⟨_, rfl, Kd.R_nil _ _ _ _ _, Below.refl _ _⟩
    · rw [if_neg h5] at h
      have c5 : decide (most < (n : Int)) = false := decide_eq_false h5
      obtain ⟨A4, hcut, hR4⟩ := from4_ A l c 4 4 rfl h4' hc
      have HR4 := Aside0.mk hR4
      have HF := fun W (hW : RB W A4 (l.drop 4)) => ref02_fixed_calls A4 (c - 4) (l.drop 4) n W hW (by rw [List.length_drop]; omega) (by omega) (by rw [List.length_drop]; omega)
      rw [List.length_drop] at HF
      obtain ⟨z, hz⟩ : ∃ z, fixR (l.drop 4) n = z := ⟨_, rfl⟩
      rw [hz] at h HF
      have hz1 : z.2.2 = 0 → 0 ≤ z.2.1 ∧ z.2.1 < 9000000000 := by
        intro hz0
        have hp := padI_range n
        rw [← hz] at hz0 ⊢
        unfold fixR at hz0 ⊢
        by_cases h7 : cutS (l.drop 4) n = 0
        · rw [if_pos h7]; dsimp only; omega
        · rw [if_neg h7] at hz0; exact absurd hz0 h7
      have HF := Aside0.mk HF
      clear hz h5 hR4
      by_cases h6 : z.2.2 = 0
      · rw [if_pos h6] at h
        obtain ⟨rfl, rfl, rfl⟩ : z.1 = r1 ∧ 4 + z.2.1 = r2 ∧ 0 = r3 := by simpa using h
        have c6 : (z.2.2 != 0) = false := by simp [h6]
        have hzz := hz1 h6
        obtain ⟨z0, z1⟩ := hzz
        clear h hz1 h6
        go_enter Tryd.func56, Tryd.ntmps56
        go_wp2_with (first | (go_at_call 55; refine (HG2.out _ HA.out).mono ?_; rintro e w' ⟨rfl, rfl⟩) | (go_at_call 94; refine (HF.out _ (HR4.out _ HA.out)).mono ?_; rintro e w1 ⟨v, rfl, ho, hb1⟩))
        go_ret3
        exact ⟨_, rfl, ho, hb1⟩
      · rw [if_neg h6] at h
        obtain ⟨rfl, rfl, rfl⟩ : [] = r1 ∧ 0 = r2 ∧ z.2.2 = r3 := by simpa using h
        have c6 : (z.2.2 != 0) = true := by simp [h6]
        clear h h6 hz1
        go_enter Tryd.func56, Tryd.ntmps56
        go_wp2_with (first | (go_at_call 55; refine (HG2.out _ HA.out).mono ?_; rintro e w' ⟨rfl, rfl⟩) | (go_at_call 94; refine (HF.out _ (HR4.out _ HA.out)).mono ?_; rintro e w1 ⟨v, rfl, ho, hb1⟩))
        go_ret3
        exact ⟨_, rfl, Kd.R_nil _ _ _ _ _, hb1⟩

theorem info_t32q : (Tryd.prog.info? 22).map (fun i => (i.zero, i.size, i.bytes)) = some (some (.int .u32 0), 1, 4) := by kernel_rfl
set_option maxHeartbeats 4000000 in
set_option maxRecDepth 100000 in
theorem twinBytes_calls (A : Option Addr) (c : Nat) (l : List Int) (w : World) (hR : Kd.C (Kd.int .u8) w A l.length l) (hc : l.length ≤ c) (hl : l.length ≤ 2000000) :
    Calls Tryd.prog 14 #[.slice A l.length c] w fun e w' => ∃ A' c', e = .returned (.slice A' l.length c') ∧ l.length < c' ∧ Kd.R (Kd.int .u8) 5 w' w.heap.size (fun _ => True) (.slice A' (l.length + 1) c') (l ++ [77]) ∧ Below w.heap.size w w' := by
  have HR := Aside0.mk hR
  have HC := Aside0.mk hc
  have HL := Aside0.mk hl
  obtain ⟨i, hi, hz0, hz1, hz2⟩ : ∃ i, Tryd.prog.info? 5 = some i ∧ i.zero = some (.int .u8 0) ∧ i.size = 1 ∧ i.bytes = 1 := by
    obtain ⟨i, hi, h2⟩ := Option.map_eq_some_iff.1 infoB
    simp only [Prod.mk.injEq] at h2
    exact ⟨i, hi, h2⟩
  obtain ⟨wm, hmk, hown, hgr⟩ := run_make_own (P := Tryd.prog) w w.heap.size 26 5 i (.int .u8 0) 1 Tryd.underlying26 hi hz0 hz1 .i64 .i64 (l.length + 1) (by rw [hz2]; omega) (by simp [maxLen]; omega) (Nat.le_refl _)
  have hmk' : (Instr.makeSlice 26 (.int .i64 0) (.int .i64 (wrap64 ((l.length : Int) + 1)))).run Tryd.prog w = .ok (.slice (some ⟨w.heap.size, 0, none⟩) 0 (l.length + 1)) wm := by
    have := hmk
    rw [wrap_in (by omega) (by omega)]
    rwa [show ((l.length + 1 : Nat) : Int) = (l.length : Int) + 1 by omega] at this
  have ho0 : Kd.R (Kd.int .u8) 5 wm w.heap.size (fun _ => True) (.slice (some ⟨w.heap.size, 0, none⟩) 0 (l.length + 1)) [] := Kd.R_of_own (enc := Value.int .u8) (h1 := fun _ => rfl) hown (fun _ _ => trivial)
  have hb0 : Below w.heap.size w wm := pw_below_grown (Below.refl _ _) none (Nat.le_refl _) hgr (fun _ h => by cases h)
  have HO := Aside0.mk ho0
  have HB := Aside0.mk hb0
  clear hR hc hl hi hz0 hz1 hz2 hmk hown hgr ho0 hb0
  go_enter Tryd.func14, Tryd.ntmps14
  go_wp2_with fail
  go_loopw [3, 4] (fun v3 v4 wr => ∃ k : Nat, k ≤ l.length ∧ v4 = .int .i64 k ∧ Kd.R (Kd.int .u8) 5 wr w.heap.size (fun _ => True) v3 (l.take k) ∧ Below w.heap.size w wr) (fun _ v4 _ => l.length - (intOf v4).toNat)
  case atStart => exact ⟨0, Nat.zero_le _, rfl, by rw [List.take_zero]; exact HO.out, HB.out⟩
  case round =>
    clear HO HB
    obtain ⟨k, hk, rfl, ho, hb⟩ := hrel
    obtain ⟨y, hy⟩ : ∃ y, y = l.take k := ⟨_, rfl⟩
    rw [← hy] at ho
    have hyl : y.length = k := by rw [hy, List.length_take]; omega
    obtain ⟨A3, c3, rfl, hc3, _⟩ := Kd.R_reads ho
    have HO := Aside0.mk ho
    have HB := Aside0.mk hb
    have hl2 := HL.out
    clear ho hb
    by_cases hlt : k < l.length
    · obtain ⟨ad, rfl, hcell⟩ := Kd.at_int (Kd.C_below HR.out HB.out) (k : Int) (by omega) (by omega)
      have hrd : rd l (k : Int) = l[k] := by unfold rd; rw [Int.toNat_natCast, List.getD_eq_getElem?_getD, List.getElem?_eq_getElem hlt]; rfl
      rw [hrd, Int.toNat_natCast] at hcell
      have HS := Aside0.mk (show l.take (k + 1) = y ++ [l[k]] by rw [hy]; exact List.take_succ_eq_append_getElem hlt)
      have HTL := Aside0.mk (show (y.length + 1) * 1 ≤ 140737488355328 by omega)
      clear hy hyl
      go_wp2_with (at_builtin; refine Kd.R_append (Kd.int .u8) (w0 := w) w.heap.size rfl _ _ 26 5 (.int .u8 0) 1 rfl Tryd.underlying26 infoB rfl (by decide) (by decide) (.slice A3 y.length c3) y l[k] [.int .u8 l[k]] (fun _ => True) (fun _ => False) (by rfl) (by rfl) rfl (fun _ h => h.elim) (fun _ _ => trivial) HO.out HB.out HB.out.size HTL.out ?_; intro v1 w1 ho1 hb1 hg1 hat1; rw [← HS.out] at ho1; obtain ⟨A1, c1, rfl, hle1, _⟩ := Kd.R_reads ho1)
      go_roundw
      case rel => exact ⟨k + 1, by omega, by go_num, by rw [List.length_take] at ho1; exact ho1, hb1⟩
      case measure => simp [intOf]; omega
    · obtain rfl : k = l.length := by omega
      clear hyl
      rw [List.take_length] at hy
      have hy := hy.symm
      subst hy
      have HTL := Aside0.mk (show (l.length + 1) * 1 ≤ 140737488355328 by omega)
      go_wp2_with (at_builtin; refine Kd.R_append (Kd.int .u8) (w0 := w) w.heap.size rfl _ _ 26 5 (.int .u8 0) 1 rfl Tryd.underlying26 infoB rfl (by decide) (by decide) (.slice A3 l.length c3) l 77 [.int .u8 77] (fun _ => True) (fun _ => False) (by rfl) (by rfl) rfl (fun _ h => h.elim) (fun _ _ => trivial) HO.out HB.out HB.out.size HTL.out ?_; intro v1 w1 ho1 hb1 hg1 hat1; obtain ⟨A1, c1, rfl, hle1, _⟩ := Kd.R_reads ho1; rw [List.length_append, List.length_singleton] at hle1)
      go_ret
      exact ⟨A1, c1, rfl, by omega, by rw [List.length_append, List.length_singleton] at ho1; exact ho1, hb1⟩
set_option maxHeartbeats 4000000 in
set_option maxRecDepth 100000 in
theorem twinNumbers_calls (A : Option Addr) (c : Nat) (l : List Int) (w : World) (hR : Kd.C (Kd.int .u32) w A l.length l) (hc : l.length ≤ c) (hl : l.length ≤ 2000000) :
    Calls Tryd.prog 59 #[.slice A l.length c] w fun e w' => ∃ A' c', e = .returned (.slice A' l.length c') ∧ l.length < c' ∧ Kd.R (Kd.int .u32) 22 w' w.heap.size (fun _ => True) (.slice A' (l.length + 1) c') (l ++ [77]) ∧ Below w.heap.size w w' := by
  have HR := Aside0.mk hR
  have HC := Aside0.mk hc
  have HL := Aside0.mk hl
  obtain ⟨i, hi, hz0, hz1, hz2⟩ : ∃ i, Tryd.prog.info? 22 = some i ∧ i.zero = some (.int .u32 0) ∧ i.size = 1 ∧ i.bytes = 4 := by
    obtain ⟨i, hi, h2⟩ := Option.map_eq_some_iff.1 info_t32q
    simp only [Prod.mk.injEq] at h2
    exact ⟨i, hi, h2⟩
  obtain ⟨wm, hmk, hown, hgr⟩ := run_make_own (P := Tryd.prog) w w.heap.size 23 22 i (.int .u32 0) 1 Tryd.underlying23 hi hz0 hz1 .i64 .i64 (l.length + 1) (by rw [hz2]; omega) (by simp [maxLen]; omega) (Nat.le_refl _)
  have hmk' : (Instr.makeSlice 23 (.int .i64 0) (.int .i64 (wrap64 ((l.length : Int) + 1)))).run Tryd.prog w = .ok (.slice (some ⟨w.heap.size, 0, none⟩) 0 (l.length + 1)) wm := by
    have := hmk
    rw [wrap_in (by omega) (by omega)]
    rwa [show ((l.length + 1 : Nat) : Int) = (l.length : Int) + 1 by omega] at this
  have ho0 : Kd.R (Kd.int .u32) 22 wm w.heap.size (fun _ => True) (.slice (some ⟨w.heap.size, 0, none⟩) 0 (l.length + 1)) [] := Kd.R_of_own (enc := Value.int .u32) (h1 := fun _ => rfl) hown (fun _ _ => trivial)
  have hb0 : Below w.heap.size w wm := pw_below_grown (Below.refl _ _) none (Nat.le_refl _) hgr (fun _ h => by cases h)
  have HO := Aside0.mk ho0
  have HB := Aside0.mk hb0
  clear hR hc hl hi hz0 hz1 hz2 hmk hown hgr ho0 hb0
  go_enter Tryd.func59, Tryd.ntmps59
  go_wp2_with fail
  go_loopw [3, 4] (fun v3 v4 wr => ∃ k : Nat, k ≤ l.length ∧ v4 = .int .i64 k ∧ Kd.R (Kd.int .u32) 22 wr w.heap.size (fun _ => True) v3 (l.take k) ∧ Below w.heap.size w wr) (fun _ v4 _ => l.length - (intOf v4).toNat)
  case atStart => exact ⟨0, Nat.zero_le _, rfl, by rw [List.take_zero]; exact HO.out, HB.out⟩
  case round =>
    clear HO HB
    obtain ⟨k, hk, rfl, ho, hb⟩ := hrel
    obtain ⟨y, hy⟩ : ∃ y, y = l.take k := ⟨_, rfl⟩
    rw [← hy] at ho
    have hyl : y.length = k := by rw [hy, List.length_take]; omega
    obtain ⟨A3, c3, rfl, hc3, _⟩ := Kd.R_reads ho
    have HO := Aside0.mk ho
    have HB := Aside0.mk hb
    have hl2 := HL.out
    clear ho hb
    by_cases hlt : k < l.length
    · obtain ⟨ad, rfl, hcell⟩ := Kd.at_int (Kd.C_below HR.out HB.out) (k : Int) (by omega) (by omega)
      have hrd : rd l (k : Int) = l[k] := by unfold rd; rw [Int.toNat_natCast, List.getD_eq_getElem?_getD, List.getElem?_eq_getElem hlt]; rfl
      rw [hrd, Int.toNat_natCast] at hcell
      have HS := Aside0.mk (show l.take (k + 1) = y ++ [l[k]] by rw [hy]; exact List.take_succ_eq_append_getElem hlt)
      have HTL := Aside0.mk (show (y.length + 1) * 4 ≤ 140737488355328 by omega)
      clear hy hyl
      go_wp2_with (at_builtin; refine Kd.R_append (Kd.int .u32) (w0 := w) w.heap.size rfl _ _ 23 22 (.int .u32 0) 4 rfl Tryd.underlying23 info_t32q rfl (by decide) (by decide) (.slice A3 y.length c3) y l[k] [.int .u32 l[k]] (fun _ => True) (fun _ => False) (by rfl) (by rfl) rfl (fun _ h => h.elim) (fun _ _ => trivial) HO.out HB.out HB.out.size HTL.out ?_; intro v1 w1 ho1 hb1 hg1 hat1; rw [← HS.out] at ho1; obtain ⟨A1, c1, rfl, hle1, _⟩ := Kd.R_reads ho1)
      go_roundw
      case rel => exact ⟨k + 1, by omega, by go_num, by rw [List.length_take] at ho1; exact ho1, hb1⟩
      case measure => simp [intOf]; omega
    · obtain rfl : k = l.length := by omega
      clear hyl
      rw [List.take_length] at hy
      have hy := hy.symm
      subst hy
      have HTL := Aside0.mk (show (l.length + 1) * 4 ≤ 140737488355328 by omega)
      go_wp2_with (at_builtin; refine Kd.R_append (Kd.int .u32) (w0 := w) w.heap.size rfl _ _ 23 22 (.int .u32 0) 4 rfl Tryd.underlying23 info_t32q rfl (by decide) (by decide) (.slice A3 l.length c3) l 77 [.int .u32 77] (fun _ => True) (fun _ => False) (by rfl) (by rfl) rfl (fun _ h => h.elim) (fun _ _ => trivial) HO.out HB.out HB.out.size HTL.out ?_; intro v1 w1 ho1 hb1 hg1 hat1; obtain ⟨A1, c1, rfl, hle1, _⟩ := Kd.R_reads ho1; rw [List.length_append, List.length_singleton] at hle1)
      go_ret
      exact ⟨A1, c1, rfl, by omega, by rw [List.length_append, List.length_singleton] at ho1; exact ho1, hb1⟩
set_option maxHeartbeats 4000000 in
set_option maxRecDepth 100000 in
theorem leftBytes_calls (A0 : Option Addr) (c0 : Nat) (A : Option Addr) (c : Nat) (l : List Int) (w : World) (hT : Kd.C (Kd.int .u8) w A0 (l ++ [77]).length (l ++ [77])) (h0 : l.length < c0) (hR : Kd.C (Kd.int .u8) w A l.length l) (hc : l.length ≤ c) (hl : l.length ≤ 2000000) :
    Calls Tryd.prog 18 #[.slice A0 l.length c0, .slice A l.length c] w fun e w' => e = .returned (.bool true) ∧ Drawn0 w w' := by
  have HR := Aside0.mk hR
  have HC := Aside0.mk hc
  have HT := Aside0.mk hT
  have hle : decide ((c0 : Int) ≤ (l.length : Int)) = false := by simp; omega
  clear hR hc hT
  go_enter Tryd.func18, Tryd.ntmps18
  go_wp2
  go_loopw [5] (fun v5 wr => ∃ k n : Nat, k ≤ l.length ∧ v5 = .int .i64 k ∧ wr = w.drewN n) (fun v5 _ => l.length - (intOf v5).toNat)
  case atStart => exact ⟨0, 0, Nat.zero_le _, rfl, rfl⟩
  case round =>
    obtain ⟨k, n, hk, rfl, rfl⟩ := hrel
    obtain ⟨ad0, hA0, hcell0⟩ := Kd.at_int HT.out (k : Int) (by omega) (by rw [List.length_append, List.length_singleton]; omega)
    by_cases hlt : k < l.length
    · obtain ⟨ad, rfl, hcell⟩ := Kd.at_int HR.out (k : Int) (by omega) (by omega)
      have hrd : rd l (k : Int) = l[k] := by unfold rd; rw [Int.toNat_natCast, List.getD_eq_getElem?_getD, List.getElem?_eq_getElem hlt]; rfl
      have hrd0 : rd (l ++ [77]) (k : Int) = l[k] := by unfold rd; rw [Int.toNat_natCast, List.getD_eq_getElem?_getD, List.getElem?_append_left hlt, List.getElem?_eq_getElem hlt]; rfl
      rw [hrd, Int.toNat_natCast] at hcell
      rw [hrd0, Int.toNat_natCast] at hcell0
      subst hA0
      obtain ⟨q, hq⟩ : ∃ q, l[k] = q := ⟨_, rfl⟩
      rw [hq] at hcell hcell0
      have c3 : (q != q) = false := by simp
      clear hrd hrd0 hq
      go_wp2
      go_region
      go_wp2
      go_roundw
      case rel => exact ⟨k + 1, n + 1, by omega, by go_num, rfl⟩
      case measure => simp [intOf]; omega
    · obtain rfl : k = l.length := by omega
      have hrd0 : rd (l ++ [77]) (l.length : Int) = 77 := by unfold rd; rw [Int.toNat_natCast, List.getD_eq_getElem?_getD, List.getElem?_append_right (Nat.le_refl _)]; simp
      rw [hrd0, Int.toNat_natCast] at hcell0
      subst hA0
      clear hrd0
      go_wp2
      go_ret
      exact ⟨rfl, ⟨_, rfl⟩⟩
set_option maxHeartbeats 4000000 in
set_option maxRecDepth 100000 in
theorem leftNumbers_calls (A0 : Option Addr) (c0 : Nat) (A : Option Addr) (c : Nat) (l : List Int) (w : World) (hT : Kd.C (Kd.int .u32) w A0 (l ++ [77]).length (l ++ [77])) (h0 : l.length < c0) (hR : Kd.C (Kd.int .u32) w A l.length l) (hc : l.length ≤ c) (hl : l.length ≤ 2000000) :
    Calls Tryd.prog 67 #[.slice A0 l.length c0, .slice A l.length c] w fun e w' => e = .returned (.bool true) ∧ Drawn0 w w' := by
  have HR := Aside0.mk hR
  have HC := Aside0.mk hc
  have HT := Aside0.mk hT
  have hle : decide ((c0 : Int) ≤ (l.length : Int)) = false := by simp; omega
  clear hR hc hT
  go_enter Tryd.func67, Tryd.ntmps67
  go_wp2
  go_loopw [5] (fun v5 wr => ∃ k n : Nat, k ≤ l.length ∧ v5 = .int .i64 k ∧ wr = w.drewN n) (fun v5 _ => l.length - (intOf v5).toNat)
  case atStart => exact ⟨0, 0, Nat.zero_le _, rfl, rfl⟩
  case round =>
    obtain ⟨k, n, hk, rfl, rfl⟩ := hrel
    obtain ⟨ad0, hA0, hcell0⟩ := Kd.at_int HT.out (k : Int) (by omega) (by rw [List.length_append, List.length_singleton]; omega)
    by_cases hlt : k < l.length
    · obtain ⟨ad, rfl, hcell⟩ := Kd.at_int HR.out (k : Int) (by omega) (by omega)
      have hrd : rd l (k : Int) = l[k] := by unfold rd; rw [Int.toNat_natCast, List.getD_eq_getElem?_getD, List.getElem?_eq_getElem hlt]; rfl
      have hrd0 : rd (l ++ [77]) (k : Int) = l[k] := by unfold rd; rw [Int.toNat_natCast, List.getD_eq_getElem?_getD, List.getElem?_append_left hlt, List.getElem?_eq_getElem hlt]; rfl
      rw [hrd, Int.toNat_natCast] at hcell
      rw [hrd0, Int.toNat_natCast] at hcell0
      subst hA0
      obtain ⟨q, hq⟩ : ∃ q, l[k] = q := ⟨_, rfl⟩
      rw [hq] at hcell hcell0
      have c3 : (q != q) = false := by simp
      clear hrd hrd0 hq
      go_wp2
      go_region
      go_wp2
      go_roundw
      case rel => exact ⟨k + 1, n + 1, by omega, by go_num, rfl⟩
      case measure => simp [intOf]; omega
    · obtain rfl : k = l.length := by omega
      have hrd0 : rd (l ++ [77]) (l.length : Int) = 77 := by unfold rd; rw [Int.toNat_natCast, List.getD_eq_getElem?_getD, List.getElem?_append_right (Nat.le_refl _)]; simp
      rw [hrd0, Int.toNat_natCast] at hcell0
      subst hA0
      clear hrd0
      go_wp2
      go_ret
      exact ⟨rfl, ⟨_, rfl⟩⟩

set_option maxHeartbeats 1000000 in
theorem ref03_Get_calls (A : Option Addr) (c : Nat) (l : List Int) (most : Int) (r1 : ByteArray) (r2 r3 : Int) (w : World) (hA : RB w A l) (hc : l.length ≤ c) (hb : byteOk l = true) (hl : l.length ≤ 140737488351232) (h : strings_Get.f l most = some (r1, r2, r3)) :
    Calls Tryd.prog 96 #[.slice A l.length c, .int .i64 most] w fun e w' => e = .returned (.tuple #[.string r1, .int .i64 r2, .int .i64 r3]) ∧ Below w.heap.size w w' := by
  unfold strings_Get.f at h
  obtain ⟨⟨x, n, e⟩, hx, h⟩ := Option.map_eq_some_iff.1 h
  obtain ⟨rfl, rfl, rfl⟩ : strOfNums x = r1 ∧ n = r2 ∧ e = r3 := by simpa using h
  clear h
  have HG := Aside0.mk (ref02_Get_calls A c l most x n e w hA hc hb hl hx)
  clear hA hx
  go_enter Tryd.func96, Tryd.ntmps96
  go_wp2_with fail
  refine HG.out.mono ?_
  rintro e1 w1 ⟨v, rfl, ho, hb1⟩
  obtain ⟨A1, c1, rfl, hle, hR⟩ := OB_reads ho
  have hs : (convert 26 9 (.slice A1 x.length c1)).run Tryd.prog w1 = .ok (.string (strOfNums x)) w1 := Kd.C_string (P := Tryd.prog) Tryd.underlying26 Tryd.underlying5 Tryd.underlying9 hR
  have HB := Aside0.mk hb1
  clear ho hle hR hb1
  go_wp2
  go_ret3
  exact ⟨rfl, HB.out⟩

set_option maxHeartbeats 1000000 in
theorem ref01_Put_calls (n : Int) (w : World) (h0 : 0 ≤ n) (h1 : n < 4294967296) :
    Calls Tryd.prog 25 #[.int .u32 n] w fun e w' => ∃ v, e = .returned v ∧ OB w' w.heap.size v (beL n 4) ∧ Below w.heap.size w w' := by
  have HL := Aside0.mk (own_lit w w.heap.size 5 .u8 (beL n 4) (Nat.le_refl _) (by rw [beL_length]; omega))
  have HE := Aside0.mk (beL4 n)
  have HLN := Aside0.mk (beL_length n 4)
  have q1 : n / 16777216 % 256 = n / 16777216 := by omega
  have Q1 := Aside0.mk q1
  clear q1
  go_enter Tryd.func25, Tryd.ntmps25
  go_wp2
  go_ret
  refine ⟨_, rfl, ?_, below_alloc (Below.refl _ _) _⟩
  have hL := HL.out
  rw [HLN.out] at hL
  have hx : nums .u8 (beL n 4) = [.int .u8 (n / 16777216), .int .u8 (n / 65536 % 256), .int .u8 (n / 256 % 256), .int .u8 (n % 256)] := by
    rw [HE.out]; simp only [nums, List.map_cons, List.map_nil, Q1.out]
  rw [hx] at hL
  refine OB_of ?_
  rw [HLN.out, show (beL n 4).map (Value.int .u8) = nums .u8 (beL n 4) from rfl, hx]
  exact hL
set_option maxHeartbeats 2000000 in
theorem ref02_PutFixed_calls (A : Option Addr) (c : Nat) (l : List Int) (w : World) (hA : RB w A l) (hc : l.length ≤ c) (hl : l.length ≤ 140737488351232) :
    Calls Tryd.prog 66 #[.slice A l.length c] w fun e w' => ∃ v, e = .returned v ∧ OB w' w.heap.size v (padded l) ∧ Below w.heap.size w w' := by
  obtain ⟨q, hq⟩ : ∃ q : Nat, padI l.length = q := ⟨(padI l.length).toNat, by have := padI_range l.length; omega⟩
  have hq3 : q ≤ 3 := by have := padI_range l.length; omega
  have HP : Aside0 (∀ W, Calls Tryd.prog 100 #[.int .i64 (l.length : Int)] W fun e w' => e = .returned (.int .i64 q) ∧ W = w') := ⟨fun W => by have := ref02_Pad_calls (l.length : Int) W (by omega); rwa [hq] at this⟩
  have HQ := Aside0.mk (show padded l = l ++ List.replicate q 0 by unfold padded; rw [hq, Int.toNat_natCast])
  have HA := Aside0.mk hA
  have HC := Aside0.mk hc
  have HTL := Aside0.mk (show (([] : List Int).length + l.length) * 1 ≤ 140737488355328 by simp; omega)
  clear hA hc hq
  go_enter Tryd.func66, Tryd.ntmps66
  go_wp2_with (at_builtin; refine Kd.R_append_row (Value.int .u8) (0 : Int) (h1 := fun _ => rfl) (w0 := w) w.heap.size rfl (.tmp 5) (.tmp 6) 26 5 (.int .u8 0) 1 rfl Tryd.underlying26 infoB rfl (by decide) _ ([] : List Int) l A _ c (fun _ => True) rfl rfl (fun _ _ => trivial) (Kd.R_nil _ _ _ _ _) HA.out (Below.refl _ _) (Nat.le_refl _) HTL.out ?_; intro v1 w1 ho1 hb1 hg1 hat1; rw [List.nil_append] at ho1; obtain ⟨A1, c1, rfl, hle, _⟩ := OB_reads ho1; have HO := Aside0.mk ho1; have HB := Aside0.mk hb1; clear ho1 hb1 hg1 hat1 hle)
  go_loopw [3, 4] (fun v3 v4 wr => ∃ k : Nat, k ≤ q ∧ v4 = .int .i64 k ∧ OB wr w.heap.size v3 (l ++ List.replicate k 0) ∧ Below w.heap.size w wr) (fun _ v4 _ => q - (intOf v4).toNat)
  case atStart => exact ⟨0, Nat.zero_le _, rfl, by rw [List.replicate_zero, List.append_nil]; exact HO.out, HB.out⟩
  case round =>
    clear HO HB
    obtain ⟨k, hk, rfl, ho, hb⟩ := hrel
    obtain ⟨A3, c3, rfl, hc3, _⟩ := OB_reads ho
    obtain ⟨y, hy⟩ : ∃ y, y = l ++ List.replicate k 0 := ⟨_, rfl⟩
    have hyl : y.length = l.length + k := by rw [hy]; simp
    rw [← hy] at ho ⊢
    have HO := Aside0.mk ho
    have HB := Aside0.mk hb
    have HY := Aside0.mk hy
    clear ho hb hc3 hy
    by_cases hlt : k < q
    · have HS := Aside0.mk (show l ++ List.replicate (k + 1) 0 = y ++ [0] by rw [HY.out, List.replicate_succ', List.append_assoc])
      have HT2 := Aside0.mk (show (y.length + 1) * 1 ≤ 140737488355328 by omega)
      clear hyl
      go_wp2_with (first | (go_at_call 100; refine (HP.out _).mono ?_; rintro e w' ⟨rfl, rfl⟩) | (at_builtin; refine Kd.R_append (Kd.int .u8) (w0 := w) w.heap.size rfl (.tmp 15) (.tmp 16) 26 5 (.int .u8 0) 1 rfl Tryd.underlying26 infoB rfl (by decide) (by decide) (.slice A3 y.length c3) y 0 [.int .u8 0] (fun _ => True) (fun _ => False) (by rfl) (by rfl) rfl (fun _ h => h.elim) (fun _ _ => trivial) HO.out HB.out HB.out.size HT2.out ?_; intro v1 w1 ho1 hb1 hg1 hat1; rw [← HS.out] at ho1; obtain ⟨A1, c1, rfl, hle1, _⟩ := Kd.R_reads ho1))
      go_roundw
      case rel => exact ⟨k + 1, by omega, by go_num, by (have h2 := ho1; rw [List.length_append, List.length_replicate] at h2; exact h2), hb1⟩
      case measure => simp [intOf]; omega
    · obtain rfl : k = q := by omega
      clear hyl
      go_wp2_with (go_at_call 100; refine (HP.out _).mono ?_; rintro e w' ⟨rfl, rfl⟩)
      go_ret
      exact ⟨_, rfl, by rw [HQ.out, ← HY.out]; exact HO.out, HB.out⟩
set_option maxHeartbeats 2000000 in
theorem ref02_Put_calls (A : Option Addr) (c : Nat) (l : List Int) (w : World) (hA : RB w A l) (hc : l.length ≤ c) (hl : l.length ≤ 1048580) :
    Calls Tryd.prog 26 #[.slice A l.length c] w fun e w' => ∃ v, e = .returned v ∧ OB w' w.heap.size v (putL l) ∧ Below w.heap.size w w' := by
  have HA := Aside0.mk hA
  have HP := fun W (hW : RB W A l) => ref02_PutFixed_calls A c l W hW hc (by omega)
  have HP := Aside0.mk HP
  have HTL := Aside0.mk (show ((beL l.length 4).length + (padded l).length) * 1 ≤ 140737488355328 by have := padI_range l.length; rw [beL_length, padded_length]; omega)
  have HE := Aside0.mk (show putL l = beL l.length 4 ++ padded l from rfl)
  obtain ⟨y, hy⟩ : ∃ y, y = padded l := ⟨_, rfl⟩
  obtain ⟨z, hz⟩ : ∃ z, z = beL l.length 4 := ⟨_, rfl⟩
  have H1 := fun W => ref01_Put_calls (l.length : Int) W (by omega) (by omega)
  rw [← hz] at H1
  rw [← hy] at HP
  rw [← hy, ← hz] at HTL HE
  have H1 := Aside0.mk H1
  clear hA hy hz
  go_enter Tryd.func26, Tryd.ntmps26
  go_wp2_with fail
  refine (H1.out _).mono ?_
  rintro e w1 ⟨v1, rfl, ho1, hb1⟩
  obtain ⟨A1, c1, rfl, hc1, _⟩ := OB_reads ho1
  have HB1 := Aside0.mk hb1
  have HO1 := Aside0.mk ho1
  have HA1 := Aside0.mk (Kd.C_below HA.out hb1)
  clear ho1 hb1 hc1
  go_wp2_with fail
  refine (HP.out _ HA1.out).mono ?_
  rintro e w2 ⟨v2, rfl, ho2, hb2⟩
  obtain ⟨A2, c2, rfl, hc2, hR2⟩ := OB_reads ho2
  have HB2 := Aside0.mk (below_then HB1.out HB1.out.size hb2)
  have HO2 := Aside0.mk (Kd.R_mono (Kd.R_elder' HO1.out (Kd.R_base ho2) hb2) (ok' := fun _ => True) (fun _ _ => trivial))
  have HR2 := Aside0.mk hR2
  have hHB := HB2.out
  clear ho2 hb2 hR2 hc2 HO1 HB1 HA HA1
  go_wp2_with (at_builtin; refine Kd.R_append_row (Value.int .u8) (0 : Int) (h1 := fun _ => rfl) (w0 := w) w.heap.size rfl _ _ 26 5 (.int .u8 0) 1 rfl Tryd.underlying26 infoB rfl (by decide) _ z y A2 _ c2 (fun _ => True) rfl rfl (fun _ _ => trivial) HO2.out HR2.out HB2.out HB2.out.size HTL.out ?_; intro v3 w3 ho3 hb3 hg3 hat3; rw [← HE.out] at ho3)
  go_ret
  exact ⟨_, rfl, ho3, hb3⟩
set_option maxHeartbeats 2000000 in
theorem ref03_Put_calls (s : ByteArray) (w : World) (hs : s.size ≤ 1048580) :
    Calls Tryd.prog 65 #[.string s] w fun e w' => ∃ v, e = .returned v ∧ OB w' w.heap.size v (putL (bytesOf s)) ∧ Below w.heap.size w w' := by
  have kb := fun W => print_bytes (P := Tryd.prog) 9 26 5 Tryd.underlying9 Tryd.underlying26 Tryd.underlying5 s W
  have hb4 := bytes_below (Below.refl w.heap.size w) (Nat.le_refl _) 5 s
  have hr4 : RB (Lib.bytesWorld w 5 s) (some ⟨w.heap.size, 0, none⟩) (bytesOf s) :=
    Kd.C_of_reads (d := (0 : Int)) (h1 := fun _ => rfl) (by have := bytes_reads w 5 s (by omega); rw [← bytesOf_length] at this; exact this)
  have hcall := ref02_Put_calls (some ⟨w.heap.size, 0, none⟩) (grownCap w s.size 0 5) (bytesOf s) (Lib.bytesWorld w 5 s) hr4 (by rw [bytesOf_length]; exact grownCap_ge _ _ _ _) (by rw [bytesOf_length]; exact hs)
  rw [bytesOf_length] at hcall
  have HB4 := Aside0.mk hb4
  have HC := Aside0.mk hcall
  clear hb4 hr4 hcall
  go_enter Tryd.func65, Tryd.ntmps65
  go_wp2_with fail
  refine HC.out.mono ?_
  rintro e w5 ⟨v5, rfl, ho5, hb5⟩
  obtain ⟨A5, c5, rfl⟩ := Kd.R_slice ho5
  have HO := Aside0.mk (Kd.R_lower ho5 HB4.out.size)
  have HB := Aside0.mk (below_then HB4.out HB4.out.size hb5)
  clear ho5 hb5
  go_wp2
  go_ret
  exact ⟨_, rfl, HO.out, HB.out⟩

/-! The document's own answers of chapters 01 and 03, in the shape of the printed contracts. -/
def wharfingerref01_Put.f (a0 : Int) : Option (List Int) := if 0 ≤ a0 ∧ a0 < 4294967296 then some (beL a0 4) else none
theorem wharfingerref01_Put.calls (a0 : Int) (r : List Int) (w : World) (h : wharfingerref01_Put.f a0 = some r) :
    Calls Tryd.prog 25 #[.int .u32 a0] w fun e w' => ∃ v0_ : Value, e = .returned (v0_) ∧ Kd.R (Kd.int .u8) 5 w' w.heap.size (fun _ => True) v0_ r ∧ Below w.heap.size w w' := by
  unfold wharfingerref01_Put.f at h
  split at h
  · rename_i h0
    obtain rfl := Option.some.inj h
    exact ref01_Put_calls a0 w h0.1 h0.2
  · cases h
def wharfingerref03_Put.f (a0 : ByteArray) : Option (List Int) := if a0.size ≤ 1048580 then some (putL (bytesOf a0)) else none
theorem wharfingerref03_Put.calls (a0 : ByteArray) (r : List Int) (w : World) (h : wharfingerref03_Put.f a0 = some r) :
    Calls Tryd.prog 65 #[.string a0] w fun e w' => ∃ v0_ : Value, e = .returned (v0_) ∧ Kd.R (Kd.int .u8) 5 w' w.heap.size (fun _ => True) v0_ r ∧ Below w.heap.size w w' := by
  unfold wharfingerref03_Put.f at h
  split at h
  · rename_i h0
    obtain rfl := Option.some.inj h
    exact ref03_Put_calls a0 w h0
  · cases h
def wharfingerref01_Get.f (l0 : List Int) : Option (Int × Int) := words_Get.f l0
theorem wharfingerref01_Get.calls (A0 : Option Addr) (c0 : Nat) (l0 : List Int) (r1 : Int) (r2 : Int) (w : World) (hr0 : Kd.C (Kd.int .u8) w A0 l0.length l0) (hc0 : l0.length ≤ c0) (h : wharfingerref01_Get.f l0 = some (r1, r2)) :
    Calls Tryd.prog 55 #[.slice A0 l0.length c0] w fun e w' => e = .returned (.tuple #[.int .u32 r1, .int .i64 r2]) ∧ Drawn0 w w' := by
  unfold wharfingerref01_Get.f words_Get.f at h
  split at h
  · rename_i h0
    simp only [Option.some.injEq, Prod.mk.injEq] at h
    obtain ⟨rfl, rfl⟩ := h
    refine (ref01_Get_calls A0 c0 l0 w hr0 hc0 h0).mono ?_
    rintro e w' ⟨rfl, rfl⟩
    exact ⟨rfl, Drawn0.refl _⟩
  · cases h
def wharfingerref03_Get.f (l0 : List Int) (a1 : Int) : Option (ByteArray × Int × Int) := if byteOk l0 = true ∧ l0.length ≤ 140737488351232 then strings_Get.f l0 a1 else none
theorem wharfingerref03_Get.calls (A0 : Option Addr) (c0 : Nat) (l0 : List Int) (a1 : Int) (r1 : ByteArray) (r2 r3 : Int) (w : World) (hr0 : Kd.C (Kd.int .u8) w A0 l0.length l0) (hc0 : l0.length ≤ c0) (h : wharfingerref03_Get.f l0 a1 = some (r1, r2, r3)) :
    Calls Tryd.prog 96 #[.slice A0 l0.length c0, .int .i64 a1] w fun e w' => e = .returned (.tuple #[.string r1, .int .i64 r2, .int .i64 r3]) ∧ Below w.heap.size w w' := by
  unfold wharfingerref03_Get.f at h
  split at h
  · rename_i h0
    exact ref03_Get_calls A0 c0 l0 a1 r1 r2 r3 w hr0 hc0 h0.1 h0.2 h
  · cases h

theorem cred3_new (W : World) (u g : Int) (v : Value) : Cred3 (W.alloc (.cells #[.int .u32 u, .int .u32 g, v] 25)) W.heap.size u g v := World.alloc_heap_new W _
theorem Cred3.below {W w' : World} {C : Nat} {u g : Int} {v : Value} (h : Cred3 W C u g v) (hb : Below W.heap.size W w') : Cred3 w' C u g v := (hb.block _ h.lt).trans h
theorem R_setC {α : Type} {d : Kd α} {e : TypeId} {W : World} {base : Nat} {ok : Nat → Prop} {v : Value} {xs : List α} (h : d.R e W base ok v xs) {C i : Nat} {x : Value} (hC : C < base) : d.R e (W.setCell ⟨C, i, none⟩ x) base ok v xs :=
  Kd.R_mono (Kd.R_move (Kd.R_bound h) (fun k hk => Below.heap_setCell _ _ _ _ (fun e => by have h1 : k = C := (by first | exact e | exact e.symm); have h2 := hk.2.1; omega))) (fun _ hk => hk.1)
set_option maxHeartbeats 4000000 in
set_option maxRecDepth 100000 in
theorem twinCred_calls (u g : Int) (A : Option Addr) (c : Nat) (l : List Int) (w : World) (hR : Kd.C (Kd.int .u32) w A l.length l) (hc : l.length ≤ c) (hl : l.length ≤ 2000000) :
    Calls Tryd.prog 19 #[.agg #[.int .u32 u, .int .u32 g, .slice A l.length c]] w fun e w' => ∃ A' c', e = .returned (.agg #[.int .u32 u, .int .u32 g, .slice A' l.length c']) ∧ l.length < c' ∧ Kd.R (Kd.int .u32) 22 w' w.heap.size (fun _ => True) (.slice A' (l.length + 1) c') (l ++ [77]) ∧ Below w.heap.size w w' := by
  obtain ⟨wb, hwb⟩ : ∃ wb, (w.alloc (.cells #[.int .u32 u, .int .u32 g, .slice A l.length c] 25)).alloc (.cells #[.int .u32 0, .int .u32 0, .slice none 0 0] 25) = wb := ⟨_, rfl⟩
  have hb0 : Below w.heap.size w wb := hwb ▸ below_alloc (below_alloc (Below.refl w.heap.size w) _) _
  have hz : wb.heap.size = w.heap.size + 2 := by rw [← hwb]; simp
  have hd : Cred3 wb (w.heap.size + 1) 0 0 (.slice none 0 0) := by
    have := cred3_new (w.alloc (.cells #[.int .u32 u, .int .u32 g, .slice A l.length c] 25)) 0 0 (.slice none 0 0)
    rw [hwb] at this
    simpa using this
  have HW := Aside0.mk hwb
  have HD := Aside0.mk hd
  have HB := Aside0.mk hb0
  have HZ := Aside0.mk hz
  have HR := Aside0.mk (Kd.C_below hR hb0)
  clear hR hwb hd hb0 hz
  go_enter Tryd.func19, Tryd.ntmps19
  have HX := Aside0.mk (show Cred3 wb w.heap.size u g (.slice A l.length c) from by
    have h1 := cred3_new w u g (.slice A l.length c)
    rw [← HW.out]
    exact (World.grownBy_alloc (w.alloc (.cells #[.int .u32 u, .int .u32 g, .slice A l.length c] 25)) (.cells #[.int .u32 0, .int .u32 0, .slice none 0 0] 25) none).block w.heap.size (by simp) (by simp) |>.trans h1)
  go_wp2_with fail
  rw [HW.out]
  have y0 := HX.out.c0
  have y1 := HX.out.c1
  have y2 := HX.out.c2
  go_region_held3 (fun w' => w'.cell? ⟨w.heap.size, 0, none⟩ = some (.int .u32 u) ∧ w'.cell? ⟨w.heap.size, 1, none⟩ = some (.int .u32 g) ∧ w'.cell? ⟨w.heap.size, 2, none⟩ = some (.slice A l.length c)) (first | exact ⟨HX1.c0, HX1.c1, HX1.c2⟩ | go_keep)
    (first | (go_at_call 59; refine (twinNumbers_calls A c l wb.drew HR.out hc hl).mono ?_; rintro e w1 ⟨A1, c1, rfl, hc1, ho1, hb1⟩; have HD1 := Cred3.below (W := wb.drew) HD.out hb1; have HX1 := Cred3.below (W := wb.drew) HX.out hb1; have x0 := HD1.c0; have x1 := HD1.c1; have x2 := HD1.c2; have f0 := HD1.fz 0 (by omega); have f1 := HD1.fz 1 (by omega); have f2 := HD1.fz 2 (by omega)))
  go_wp2
  have hz := HZ.out
  have hf := ((HD1.set0 u).set1 g).set2 (.slice A1 l.length c1)
  have z0 := hf.c0
  have z1 := hf.c1
  have z2 := hf.c2
  have hzd : wb.drew.heap.size = w.heap.size + 2 := hz
  have ho2 := R_setC (R_setC (R_setC ho1 (C := w.heap.size + 1) (i := 0) (x := .int .u32 u) (by omega)) (C := w.heap.size + 1) (i := 1) (x := .int .u32 g) (by omega)) (C := w.heap.size + 1) (i := 2) (x := .slice A1 l.length c1) (by omega)
  have hbf : Below w.heap.size w w1 := below_then (below_drew1 HB.out) HB.out.size hb1
  exact bodyPost_ret (v := .agg #[.int .u32 u, .int .u32 g, .slice A1 l.length c1]) (by simp [results, Tryd.results19, go_sem, z0, z1, z2]) rfl ⟨A1, c1, rfl, hc1, Kd.R_lower ho2 (by omega), ((hbf.setCell (p := ⟨w.heap.size + 1, 0, none⟩) (by simp) _).setCell (p := ⟨w.heap.size + 1, 1, none⟩) (by simp) _).setCell (p := ⟨w.heap.size + 1, 2, none⟩) (by simp) _⟩
set_option maxHeartbeats 4000000 in
set_option maxRecDepth 100000 in
theorem leftCred_calls (u g : Int) (A0 : Option Addr) (c0 : Nat) (A : Option Addr) (c : Nat) (l : List Int) (w : World) (hT : Kd.C (Kd.int .u32) w A0 (l ++ [77]).length (l ++ [77])) (h0 : l.length < c0) (hR : Kd.C (Kd.int .u32) w A l.length l) (hc : l.length ≤ c) (hl : l.length ≤ 2000000) :
    Calls Tryd.prog 27 #[.agg #[.int .u32 u, .int .u32 g, .slice A0 l.length c0], .agg #[.int .u32 u, .int .u32 g, .slice A l.length c]] w fun e w' => e = .returned (.bool true) ∧ Below w.heap.size w w' := by
  obtain ⟨wb, hwb⟩ : ∃ wb, (w.alloc (.cells #[.int .u32 u, .int .u32 g, .slice A0 l.length c0] 25)).alloc (.cells #[.int .u32 u, .int .u32 g, .slice A l.length c] 25) = wb := ⟨_, rfl⟩
  have hb0 : Below w.heap.size w wb := hwb ▸ below_alloc (below_alloc (Below.refl w.heap.size w) _) _
  have hd : Cred3 wb (w.heap.size + 1) u g (.slice A l.length c) := by
    have := cred3_new (w.alloc (.cells #[.int .u32 u, .int .u32 g, .slice A0 l.length c0] 25)) u g (.slice A l.length c)
    rw [hwb] at this
    simpa using this
  have hx : Cred3 wb w.heap.size u g (.slice A0 l.length c0) := by
    have h1 := cred3_new w u g (.slice A0 l.length c0)
    rw [← hwb]
    exact (World.grownBy_alloc (w.alloc (.cells #[.int .u32 u, .int .u32 g, .slice A0 l.length c0] 25)) (.cells #[.int .u32 u, .int .u32 g, .slice A l.length c] 25) none).block w.heap.size (by simp) (by simp) |>.trans h1
  have x0 := hx.c0
  have x1 := hx.c1
  have x2 := hx.c2
  have y0 := hd.c0
  have y1 := hd.c1
  have y2 := hd.c2
  rw [← hwb] at x0 x1 x2 y0 y1 y2
  have q1 : (u == u) = true := by simp
  have q2 : (g == g) = true := by simp
  have HW := Aside0.mk hwb
  have HB := Aside0.mk hb0
  have HT := Aside0.mk (Kd.C_below hT hb0)
  have HR := Aside0.mk (Kd.C_below hR hb0)
  clear hT hR hwb hd hx hb0
  go_enter Tryd.func27, Tryd.ntmps27
  go_wp2_with fail
  go_outline
  rw [HW.out]
  refine (leftNumbers_calls A0 c0 A c l _ HT.out h0 HR.out hc hl).mono ?_
  rintro e w1 ⟨rfl, ⟨nd, rfl⟩⟩
  go_wp2
  go_ret
  exact ⟨rfl, pw_below_drewN HB.out nd⟩
end Go.Proofs.YtoalknneifpehaaDoor.Hand
