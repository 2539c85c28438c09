import Derived.Test.YtoalknneifpehaaDoorH2
import Derived.Laws.BitsAllLaws
namespace Go.Proofs.YtoalknneifpehaaDoor.Hand
open Go.RowKit Go.Proofs.YtoalknneifpehaaDoorW.PrintWords Go.Proofs.YtoalknneifpehaaDoorW.PrintLast Go.Proofs.YtoalknneifpehaaDoorW.PrintMore
set_option linter.unusedVariables false
set_option linter.unusedSimpArgs false

/-- The number that bytes are, the highest first. -/
def deB (xs : List Int) : Int := xs.foldl (fun n c => n * 256 + c) 0
def byteOk (xs : List Int) : Bool := xs.all fun x => decide (0 ≤ x) && decide (x < 256)
theorem deB_nil : deB [] = 0 := rfl
theorem deB_snoc (xs : List Int) (c : Int) : deB (xs ++ [c]) = deB xs * 256 + c := by simp [deB]
theorem byteOk_mem {xs : List Int} (h : byteOk xs = true) {x : Int} (hx : x ∈ xs) : 0 ≤ x ∧ x < 256 := by
  unfold byteOk at h; rw [List.all_eq_true] at h; have := h x hx; simpa using this
theorem byteOk_take {xs : List Int} (h : byteOk xs = true) (k : Nat) : byteOk (xs.take k) = true := by
  unfold byteOk at h ⊢; rw [List.all_eq_true] at h ⊢; exact fun x hx => h x (List.mem_of_mem_take hx)
theorem deB_range (k : Nat) : ∀ xs : List Int, xs.length = k → byteOk xs = true → 0 ≤ deB xs ∧ deB xs < 256 ^ k := by
  induction k with
  | zero => intro xs h _; rw [List.eq_nil_of_length_eq_zero h]; simp [deB]
  | succ k ih =>
    intro xs h hb
    obtain ⟨ys, c, rfl⟩ : ∃ ys c, xs = ys ++ [c] := ⟨xs.dropLast, xs.getLast (by intro e; subst e; simp at h), (List.dropLast_concat_getLast _).symm⟩
    have hy : byteOk ys = true := by unfold byteOk at hb ⊢; rw [List.all_append] at hb; simp at hb ⊢; exact hb.1
    have hc := byteOk_mem hb (x := c) (by simp)
    obtain ⟨h1, h2⟩ := ih ys (by simpa using h) hy
    rw [deB_snoc, Int.pow_succ]
    omega

theorem ofInt_u32 (a : Nat) (ha : a < 4294967296) : (BitVec.ofInt 32 (a : Int)).toNat = a := by
  rw [BitVec.ofInt_natCast, BitVec.toNat_ofNat]; exact Nat.mod_eq_of_lt (by omega)
theorem or_u32 (a b : Int) (ha : 0 ≤ a) (ha2 : a < 16777216) (hb : 0 ≤ b) (hb2 : b < 256) : bits .or .u32 (a * 256) b = a * 256 + b := by
  obtain ⟨a, rfl⟩ := Int.eq_ofNat_of_zero_le ha
  obtain ⟨b, rfl⟩ := Int.eq_ofNat_of_zero_le hb
  have e : (a : Int) * 256 = ((a * 256 : Nat) : Int) := by omega
  rw [e]
  show IntKind.u32.wrap ((BitVec.ofInt 32 ((a * 256 : Nat) : Int) ||| BitVec.ofInt 32 (b : Int)).toNat : Int) = _
  rw [BitVec.toNat_or, ofInt_u32 _ (by omega), ofInt_u32 b (by omega)]
  have h : a * 256 ||| b = a * 256 + b := by
    have := Nat.shiftLeft_add_eq_or_of_lt (b := b) (i := 8) (by omega) a
    rw [Nat.shiftLeft_eq] at this
    exact this.symm
  rw [h, IntKind.wrap_u32]
  omega

theorem deB_take_succ (xs : List Int) (k : Nat) (h : k < xs.length) : deB (xs.take (k + 1)) = deB (xs.take k) * 256 + xs[k] := by
  rw [List.take_succ_eq_append_getElem h, deB_snoc]

set_option maxHeartbeats 2000000 in
theorem get32_calls (A : Option Addr) (c : Nat) (xs : List Int) (w : World) (hA : RB w A xs) (hc : xs.length ≤ c) (hb : byteOk (xs.take 4) = true) :
    Calls Tryd.prog 109 #[.slice A xs.length c, .int .i64 4] w fun e w' => e = .returned (.tuple #[.int .u32 (if xs.length < 4 then 0 else deB (xs.take 4)), .int .i64 (if xs.length < 4 then 4 else 0)]) ∧ Drawn0 w w' := by
  have HA := Aside0.mk hA
  have HC := Aside0.mk hc
  have HB := Aside0.mk hb
  clear hA hc hb
  by_cases h0 : xs.length < 4
  · have c1 : decide (xs.length < 4) = true := decide_eq_true h0
    rw [if_pos h0, if_pos h0]
    have c2 : decide ((xs.length : Int) < 4) = true := by simp; omega
    clear h0 c1
    go_enter Tryd.func109, Tryd.ntmps109
    go_wp2
    go_ret2
    exact ⟨rfl, Drawn0.refl _⟩
  · rw [if_neg h0, if_neg h0]
    have c2 : decide ((xs.length : Int) < 4) = false := by simp; omega
    have h4 : 4 ≤ xs.length := by omega
    have h5 : 4 ≤ c := by have := HC.out; omega
    clear h0
    go_enter Tryd.func109, Tryd.ntmps109
    go_wp2
    have H4 := Aside0.mk h4
    go_loop [4, 7, 16] (fun v _ i => ∃ k : Nat, k ≤ 4 ∧ i = .int .i64 k ∧ v = .int .u32 (deB (xs.take k))) (fun _ _ i => 4 - (intOf i).toNat)
    case atStart => exact ⟨0, by omega, rfl, rfl⟩
    case round =>
      obtain ⟨k, hk, rfl, rfl⟩ := hrel
      by_cases hlt : k < 4
      · have hlt2 : k < xs.length := by omega
        obtain ⟨ad, rfl, hcell⟩ := Kd.at_int HA.out (k : Int) (by omega) (by omega)
        have hrd : rd xs (k : Int) = xs[k] := by unfold rd; rw [Int.toNat_natCast, List.getD_eq_getElem?_getD, List.getElem?_eq_getElem hlt2]; rfl
        rw [hrd, Int.toNat_natCast] at hcell
        have hbk := byteOk_mem HB.out (x := xs[k]) (by rw [List.mem_take_iff_getElem]; exact ⟨k, by omega, rfl⟩)
        have hdr := deB_range k (xs.take k) (by simp; omega) (by have := byteOk_take HB.out k; rwa [List.take_take, Nat.min_eq_left hk] at this)
        have hd24 : deB (xs.take k) < 16777216 := by
          have : k = 0 ∨ k = 1 ∨ k = 2 ∨ k = 3 := by omega
          rcases this with rfl | rfl | rfl | rfl <;> (have := hdr.2; simp at this ⊢; omega)
        have HS := Aside0.mk (deB_take_succ xs k hlt2)
        have HO := Aside0.mk (or_u32 (deB (xs.take k)) xs[k] hdr.1 hd24 hbk.1 hbk.2)
        obtain ⟨b1, b2⟩ := hbk
        obtain ⟨d1, d2⟩ := hdr
        clear d2 hrd
        obtain ⟨q, hq⟩ : ∃ q, xs[k] = q := ⟨_, rfl⟩
        rw [hq] at hcell b1 b2 HS HO
        clear hq
        generalize deB (xs.take k) = d at hd24 HS HO d1 ⊢
        go_wp2
        go_round
        case rel => exact ⟨k + 1, by omega, by go_num, by rw [HO.out, HS.out]⟩
        case measure => simp [intOf]; omega
      · obtain rfl : k = 4 := by omega
        go_wp2
        go_ret2
        exact ⟨rfl, Drawn0.refl _⟩
/-- words.Get, in the print's form. -/
def words_Get.f (l0 : List Int) : Option (Int × Int) := if byteOk (l0.take 4) = true then some (if l0.length < 4 then 0 else deB (l0.take 4), if l0.length < 4 then 4 else 0) else none
set_option maxHeartbeats 1000000 in
theorem words_Get.calls (A0 : Option Addr) (c0 : Nat) (l0 : List Int) (r1 : Int) (r2 : Int) (w : World) (hr0 : Kd.C (Kd.int .u8) w A0 l0.length l0) (hc0 : l0.length ≤ c0) (h : words_Get.f l0 = some (r1, r2)) :
    Calls Tryd.prog 103 #[.slice A0 l0.length c0] w fun e w' => e = .returned (.tuple #[.int .u32 r1, .int .i64 r2]) ∧ Drawn0 w w' := by
  unfold words_Get.f at h
  by_cases hb : byteOk (l0.take 4) = true
  · rw [if_pos hb] at h
    simp only [Option.some.injEq, Prod.mk.injEq] at h
    obtain ⟨rfl, rfl⟩ := h
    have HR := Aside0.mk hr0
    have HC := Aside0.mk hc0
    have HB := Aside0.mk hb
    clear hr0 hc0 hb
    by_cases h4 : l0.length < 4
    all_goals
      have hg := fun W h1 => get32_calls A0 c0 l0 W h1 HC.out HB.out
      first | simp only [if_pos h4] at hg ⊢ | simp only [if_neg h4] at hg ⊢
      have HG := Aside0.mk hg
      clear hg h4
      go_enter Tryd.func103, Tryd.ntmps103
      go_wp2_with (go_at_call 109; refine (HG.out _ HR.out).mono ?_; rintro e w' ⟨rfl, ⟨nd, rfl⟩⟩)
      go_ret2
      exact ⟨rfl, by repeat (first | exact Drawn0.refl _ | apply Drawn0.step)⟩
  · rw [if_neg hb] at h; cases h
end Go.Proofs.YtoalknneifpehaaDoor.Hand
