import Derived.Test.YtoalknneifpehaaDoorH2
import Derived.ScopeJumps
import Derived.WalkMore
import Derived.Lib.SliceRun
namespace Go.Proofs.YtoalknneifpehaaDoor.Hand
open Go.RowKit Go.Proofs.YtoalknneifpehaaDoorW.PrintWords Go.Proofs.YtoalknneifpehaaDoorW.PrintLast Go.Proofs.YtoalknneifpehaaDoorW.PrintMore
set_option linter.unusedVariables false
set_option linter.unusedSimpArgs false

theorem and3 (x : Int) : bits .and .i64 x 3 = x % 4 := by
  show IntKind.i64.wrap ((BitVec.ofInt 64 x &&& BitVec.ofInt 64 3).toNat : Int) = _
  have h : (BitVec.ofInt 64 x &&& BitVec.ofInt 64 3).toNat = (BitVec.ofInt 64 x).toNat % 4 := by
    rw [BitVec.toNat_and]
    exact Nat.and_two_pow_sub_one_eq_mod _ 2
  rw [h, BitVec.toNat_ofInt, IntKind.wrap_i64]
  omega

/-- How many noughts stand behind n bytes. -/
def padI (n : Int) : Int := if n < 0 then 0 else (-n) % 4
theorem padI_nat (n : Nat) : padI n = ((4 - n % 4) % 4 : Nat) := by unfold padI; rw [if_neg (by omega)]; omega
theorem padI_range (n : Int) : 0 ≤ padI n ∧ padI n ≤ 3 := by unfold padI; split <;> omega
def opaque_Pad.f (a0 : Int) : Option Int := some (padI a0)
set_option maxHeartbeats 1000000 in
theorem opaque_Pad.calls (a0 : Int) (r : Int) (w : World) (h : opaque_Pad.f a0 = some r) :
    Calls Tryd.prog 99 #[.int .i64 a0] w fun e w' => e = .returned (.int .i64 r) ∧ Drawn0 w w' := by
  obtain rfl := Option.some.inj h
  clear h
  by_cases h0 : a0 < 0
  · have c0 : decide (a0 < 0) = true := decide_eq_true h0
    have e : padI a0 = 0 := by unfold padI; rw [if_pos h0]
    rw [e]
    clear h0 e
    go_enter Tryd.func99, Tryd.ntmps99
    go_wp2
    go_ret
    exact ⟨rfl, Drawn0.refl _⟩
  · have c0 : decide (a0 < 0) = false := decide_eq_false h0
    have e : padI a0 = (wrap64 (-a0)) % 4 := by unfold padI wrap64; rw [if_neg h0]; omega
    rw [e]
    clear h0 e
    go_enter Tryd.func99, Tryd.ntmps99
    go_wp2
    go_ret
    exact ⟨by show Ending.returned (.int .i64 (bits .and .i64 (wrap64 (-a0)) 3)) = _; rw [and3], Drawn0.refl _⟩

set_option maxHeartbeats 1000000 in
theorem clone_calls (A : Option Addr) (c : Nat) (xs : List Int) (w : World) (hA : RB w A xs) (hc : xs.length ≤ c) (hlen : xs.length ≤ 140737488355328) :
    Calls Tryd.prog 54 #[.slice A xs.length c] w fun e w' => ∃ v, e = .returned v ∧ OB w' w.heap.size v xs ∧ Below w.heap.size w w' := by
  have hnil := fun (W : World) (n c : Nat) => Lib.run_eql_slice_nil (P := Tryd.prog) W 26 5 A n c 0 0 Tryd.underlying26
  cases A with
  | none =>
    have hx : xs = [] := by
      rcases Nat.eq_zero_or_pos xs.length with h0 | h0
      · exact List.eq_nil_of_length_eq_zero h0
      · obtain ⟨ad, h, _⟩ := hA.2.2 h0
        cases h
    subst hx
    go_enter Tryd.func54, Tryd.ntmps54
    go_wp2
    go_ret
    exact ⟨.slice none 0 0, rfl, Kd.R_nil _ _ _ _ _, Below.refl _ _⟩
  | some ad =>
    have HA := Aside0.mk hA
    have HC := Aside0.mk hc
    clear hA hc
    go_enter Tryd.func54, Tryd.ntmps54
    have hl0 : OB (w.alloc (.cells #[] 5)) w.heap.size (.slice (some ⟨w.heap.size, 0, none⟩) 0 0) [] := OB_of (xs := []) (by simpa [nums] using own_lit w w.heap.size 5 .u8 [] (Nat.le_refl _) (by simp))
    have HL0 := Aside0.mk hl0
    clear hl0
    go_wp2_with (at_builtin; refine Kd.R_append_row (Value.int .u8) (0 : Int) (h1 := fun _ => rfl) w.heap.size rfl _ _ 26 5 (.int .u8 0) 1 rfl Tryd.underlying26 infoB rfl (by decide) _ [] xs (some ad) _ c (fun _ => True) rfl rfl (fun _ _ => trivial) HL0.out (Kd.C_alloc HA.out _) ((Below.refl _ _).alloc (Nat.le_refl _) _) (by simp) (by simp; omega) ?_; intro v1 w2 ho1 hb1 hg1 hat1; obtain ⟨A1, c1, rfl, hle, _⟩ := OB_reads ho1)
    go_ret
    exact ⟨_, rfl, ho1, hb1⟩

/-- What cut answers: 4 where there are too few bytes, 5 where the padding is not noughts. -/
def cutS (xs : List Int) (n : Nat) : Int := if (xs.length : Int) < n + padI n then 4 else if ((xs.drop n).take (padI n).toNat).all (· == 0) then 0 else 5

/-- Where cut stands at its label: so many noughts were seen. -/
def CutJ (w : World) (A : Option Addr) (c : Nat) (xs : List Int) (n q : Nat) (a' : Act) (w' : World) : Prop :=
  Drawn0 w w' ∧ ∃ (j : Nat) (i : Int) (u17 u18 u19 u20 u21 u22 u23 u24 u25 u26 u27 u28 u29 u30 : Value), j ≤ q ∧ Aside0 (i = n + j) ∧ Aside0 (((xs.drop n).take j).all (· == 0) = true) ∧ a' = { tmps := #[.slice A xs.length c, .int .i64 n, undef, undef, .slice none 0 0, .int .i64 0, .int .i64 ((n : Int) + q), .int .i64 i, .int .i64 n, .int .i64 n, .int .i64 q, .int .i64 ((n : Int) + q), .slice A xs.length c, .int .i64 xs.length, .int .i64 ((n : Int) + q), .bool false, .int .i64 n, u17, u18, u19, u20, u21, u22, u23, u24, u25, u26, u27, u28, u29, u30], defers := [] }
def CutM (n q : Nat) (a' : Act) (_ : World) : Nat := ((n : Int) + q - intOf (a'.tmps.getD 7 undef)).toNat

set_option maxHeartbeats 2000000 in
theorem cut_calls (A : Option Addr) (c : Nat) (xs : List Int) (n : Nat) (w : World) (hA : RB w A xs) (hc : xs.length ≤ c) (hn : n ≤ 4294967296) :
    Calls Tryd.prog 110 #[.slice A xs.length c, .int .i64 n] w fun e w' => e = .returned (.tuple #[if cutS xs n = 0 then .slice A n n else .slice none 0 0, .int .i64 (cutS xs n)]) ∧ Drawn0 w w' := by
  obtain ⟨q, hq⟩ : ∃ q : Nat, padI n = q := ⟨(padI n).toNat, by have := padI_range n; omega⟩
  have hq3 : q ≤ 3 := by have := padI_range n; omega
  have HQ := Aside0.mk hq
  have HA := Aside0.mk hA
  have HC := Aside0.mk hc
  clear hA hc hq
  by_cases h0 : (xs.length : Int) < n + q
  · have e : cutS xs n = 4 := by unfold cutS; rw [HQ.out, if_pos h0]
    rw [e]
    clear e
    go_enter Tryd.func110, Tryd.ntmps110
    go_wp2
    refine wp_scope_jumps 0 (fun _ _ => False) (fun _ _ => 0) rfl ?_ ?_
    · go_wp2_with (go_at_call 99; refine (opaque_Pad.calls n q _ (by unfold opaque_Pad.f; rw [HQ.out])).mono ?_; rintro e w' ⟨rfl, ⟨nd, rfl⟩⟩)
      simp only [Exit.jump]
      go_ret2
      exact ⟨rfl, by repeat (first | exact Drawn0.refl _ | apply Drawn0.step)⟩
    · exact fun a w h => h.elim
  · have H0 := Aside0.mk h0
    have hnq : n + q ≤ xs.length := by omega
    have c1 : decide ((xs.length : Int) < n + q) = false := decide_eq_false h0
    clear h0
    go_enter Tryd.func110, Tryd.ntmps110
    go_wp2
    refine wp_scope_jumps 0 (CutJ w A c xs n q) (CutM n q) rfl ?_ ?_
    · go_wp2_with (go_at_call 99; refine (opaque_Pad.calls n q _ (by unfold opaque_Pad.f; rw [HQ.out])).mono ?_; rintro e w' ⟨rfl, ⟨nd, rfl⟩⟩)
      go_step3
      by_cases hj2 : 0 < q
      · have c2 : decide ((n : Int) < (n : Int) + q) = true := by simp; omega
        have hlt : n + 0 < xs.length := by omega
        obtain ⟨ad, rfl, hcell⟩ := Kd.at_int HA.out ((n + 0 : Nat) : Int) (by omega) (by omega)
        have hrd : rd xs ((n + 0 : Nat) : Int) = xs[n + 0] := by unfold rd; rw [Int.toNat_natCast, List.getD_eq_getElem?_getD, List.getElem?_eq_getElem hlt]; rfl
        rw [hrd] at hcell
        simp only [Int.toNat_natCast, Nat.add_zero] at hcell
        have hix : ((n : Int)).toNat = n := by omega
        have HD := Aside0.mk (show (xs.drop n).take (0 + 1) = (xs.drop n).take 0 ++ [xs[n + 0]] by rw [List.take_succ_eq_append_getElem (by rw [List.length_drop]; omega)]; simp)
        have p1 : 0 ≤ (n : Int) := by omega
        have p2 : (n : Int) < xs.length := by omega
        obtain ⟨b, hb⟩ : ∃ b, xs[n + 0] = b := ⟨_, rfl⟩
        simp only [Nat.add_zero] at hb
        rw [hb] at hcell
        have HBB := Aside0.mk hb
        clear hb
        by_cases hz : b = 0
        · have c3 : (b != 0) = false := by simp [hz]
          have HZZ := Aside0.mk hz
          clear hz
          go_wp2
          go_step3
          refine ⟨rfl, ?_⟩
          · exact ⟨by repeat (first | exact Drawn0.refl _ | apply Drawn0.step), 0 + 1, _, _, _, _, _, _, _, _, _, _, _, _, _, _, _, by omega, ⟨by omega⟩, ⟨by rw [HD.out, List.all_append, List.take_zero, List.all_nil]; simp [HBB.out, HZZ.out]⟩, rfl⟩
          
        · have c3 : (b != 0) = true := by simp [hz]
          have HZZ := Aside0.mk hz
          clear hz
          go_wp2
          simp only [Exit.jump]
          have e : cutS xs n = 5 := by
            unfold cutS
            rw [HQ.out, if_neg (by have := H0.out; omega), if_neg]
            intro hall
            rw [List.all_eq_true] at hall
            have hm : xs[n + 0] ∈ (xs.drop n).take (q : Int).toNat := by
              rw [List.mem_take_iff_getElem]
              exact ⟨0, by simp; omega, by simp⟩
            have := hall _ hm
            simp only [Nat.add_zero] at this
            rw [HBB.out] at this
            exact HZZ.out (by simpa using this)
          go_ret2
          exact ⟨by rw [e]; rfl, by repeat (first | exact Drawn0.refl _ | apply Drawn0.step)⟩
      · obtain rfl : q = 0 := by omega
        have c2 : decide ((n : Int) < (n : Int) + ((0 : Nat) : Int)) = false := by simp
        have p3 : n ≤ c := by have := HC.out; omega
        go_wp2
        simp only [Exit.jump]
        have e : cutS xs n = 0 := by
          unfold cutS
          rw [HQ.out, if_neg (by have := H0.out; omega), if_pos]
          simp
        go_ret2
        exact ⟨by rw [e]; rfl, by repeat (first | exact Drawn0.refl _ | apply Drawn0.step)⟩
    · rintro a' w' ⟨⟨⟨nd, rfl⟩⟩, j, i, u17, u18, u19, u20, u21, u22, u23, u24, u25, u26, u27, u28, u29, u30, hj, HI, HZ, rfl⟩
      obtain rfl := HI.out
      clear HI
      by_cases hj2 : j < q
      · have c2 : decide (((n : Int) + j) < (n : Int) + q) = true := by simp; omega
        have hlt : n + j < xs.length := by omega
        obtain ⟨ad, rfl, hcell⟩ := Kd.at_int HA.out ((n + j : Nat) : Int) (by omega) (by omega)
        have hrd : rd xs ((n + j : Nat) : Int) = xs[n + j] := by unfold rd; rw [Int.toNat_natCast, List.getD_eq_getElem?_getD, List.getElem?_eq_getElem hlt]; rfl
        rw [hrd] at hcell
        simp only [Int.toNat_natCast] at hcell
        have hix : (((n : Int) + j)).toNat = n + j := by omega
        have HD := Aside0.mk (show (xs.drop n).take (j + 1) = (xs.drop n).take j ++ [xs[n + j]] by rw [List.take_succ_eq_append_getElem (by rw [List.length_drop]; omega)]; simp)
        have p1 : 0 ≤ ((n : Int) + j) := by omega
        have p2 : ((n : Int) + j) < xs.length := by omega
        obtain ⟨b, hb⟩ : ∃ b, xs[n + j] = b := ⟨_, rfl⟩
        skip
        rw [hb] at hcell
        have HBB := Aside0.mk hb
        clear hb
        by_cases hz : b = 0
        · have c3 : (b != 0) = false := by simp [hz]
          have HZZ := Aside0.mk hz
          clear hz
          go_wp2
          go_step3
          refine ⟨rfl, ?_, ?_⟩
          · exact ⟨by repeat (first | exact Drawn0.refl _ | apply Drawn0.step), j + 1, _, _, _, _, _, _, _, _, _, _, _, _, _, _, _, by omega, ⟨by omega⟩, ⟨by rw [HD.out, List.all_append, HZ.out]; simp [HBB.out, HZZ.out]⟩, rfl⟩
          · simp [CutM, intOf]; omega
        · have c3 : (b != 0) = true := by simp [hz]
          have HZZ := Aside0.mk hz
          clear hz
          go_wp2
          simp only [Exit.jump]
          have e : cutS xs n = 5 := by
            unfold cutS
            rw [HQ.out, if_neg (by have := H0.out; omega), if_neg]
            intro hall
            rw [List.all_eq_true] at hall
            have hm : xs[n + j] ∈ (xs.drop n).take (q : Int).toNat := by
              rw [List.mem_take_iff_getElem]
              exact ⟨j, by simp; omega, by simp⟩
            have := hall _ hm
            skip
            rw [HBB.out] at this
            exact HZZ.out (by simpa using this)
          go_ret2
          exact ⟨by rw [e]; rfl, by repeat (first | exact Drawn0.refl _ | apply Drawn0.step)⟩
      · obtain rfl : j = q := by omega
        have c2 : decide (((n : Int) + j) < (n : Int) + j) = false := by simp
        have p3 : n ≤ c := by have := HC.out; omega
        go_wp2
        simp only [Exit.jump]
        have e : cutS xs n = 0 := by
          unfold cutS
          rw [HQ.out, if_neg (by have := H0.out; omega), if_pos]
          simpa using HZ.out
        go_ret2
        exact ⟨by rw [e]; rfl, by repeat (first | exact Drawn0.refl _ | apply Drawn0.step)⟩
end Go.Proofs.YtoalknneifpehaaDoor.Hand
