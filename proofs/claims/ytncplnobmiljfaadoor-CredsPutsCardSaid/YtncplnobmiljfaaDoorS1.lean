import Derived.Test.YtncplnobmiljfaaDoorH7
import Derived.Laws.EntriesVeiled
namespace Go.Proofs.YtncplnobmiljfaaDoor.Hand
open Go.RowKit Go.Proofs.YtncplnobmiljfaaDoorW.PrintWords Go.Proofs.YtncplnobmiljfaaDoorW.PrintLast Go.Proofs.YtncplnobmiljfaaDoorW.PrintMore
set_option linter.unusedVariables false
set_option linter.unusedSimpArgs false

/-- Has a text such a byte? -/
def hasB (s : ByteArray) (c : Int) : Bool := (bytesOf s).contains c
/-- Has a text one of such bytes, or is it empty? -/
def brk (s : ByteArray) (odd : List Int) : Bool := odd.any (hasB s) || s.data.toList.isEmpty

theorem bytesOf_get (s : ByteArray) (i : Nat) (h : i < s.size) : (bytesOf s)[i]'(by rw [bytesOf_length]; exact h) = (s[i].toNat : Int) := by
  simp [bytesOf]; rfl

set_option maxHeartbeats 2000000 in
theorem without1_calls (s : ByteArray) (B : Nat) (A : Option Addr) (c : Nat) (odd : List Int) (w : World) (hs : s.size ≤ 9223372036854775807) (hB : w.cell? ⟨B, 0, none⟩ = some (.slice A odd.length c)) (hR : RB w A odd) (hc : odd.length ≤ c) (hl : odd.length ≤ 100) :
    Calls Tryd.prog 85 #[.string s, .pointer (some ⟨B, 0, none⟩)] w fun e w' => e = .returned (.bool (brk s odd)) ∧ Drawn0 w w' := by
  have HR := Aside0.mk hR
  have HC := Aside0.mk hc
  clear hR hc
  go_enter Tryd.func85, Tryd.ntmps85
  go_wp2
  go_loop [9] (fun i => ∃ k : Nat, k ≤ odd.length ∧ i = .int .i64 k ∧ Aside0 ((odd.take k).any (hasB s) = false)) (fun i => odd.length - (intOf i).toNat)
  case atStart => exact ⟨0, by omega, rfl, ⟨by simp⟩⟩
  case round =>
    obtain ⟨k, hk, rfl, HT⟩ := hrel
    by_cases hlt : k < odd.length
    · obtain ⟨ad, rfl, hcell⟩ := Kd.at_int HR.out (k : Int) (by omega) (by omega)
      have hrd : rd odd (k : Int) = odd[k] := by unfold rd; rw [Int.toNat_natCast, List.getD_eq_getElem?_getD, List.getElem?_eq_getElem hlt]; rfl
      rw [hrd, Int.toNat_natCast] at hcell
      have HS := Aside0.mk (List.take_succ_eq_append_getElem hlt)
      obtain ⟨q, hq⟩ : ∃ q, odd[k] = q := ⟨_, rfl⟩
      rw [hq] at hcell HS
      have HQ := Aside0.mk (show q ∈ odd from hq ▸ List.getElem_mem hlt)
      clear hq hrd
      go_wp2
      go_loop [15] (fun i => ∃ j : Nat, j ≤ s.size ∧ i = .int .i64 j ∧ Aside0 (((bytesOf s).take j).contains q = false)) (fun i => s.size - (intOf i).toNat)
      case atStart => exact ⟨0, by omega, rfl, ⟨by simp⟩⟩
      case round =>
        obtain ⟨j, hj, rfl, HJ⟩ := hrel
        by_cases hlt2 : j < s.size
        · have HG := Aside0.mk (bytesOf_get s j hlt2)
          have HS2 := Aside0.mk (List.take_succ_eq_append_getElem (l := bytesOf s) (i := j) (by rw [bytesOf_length]; exact hlt2))
          by_cases hz : (s[j].toNat : Int) = q
          · have c3 : ((s[j].toNat : Int) == q) = true := beq_iff_eq.mpr hz
            have HZ := Aside0.mk hz
            clear hz
            go_wp2
            go_ret
            refine ⟨?_, Drawn0.refl _⟩
            have hin : hasB s q = true := by
              unfold hasB
              rw [List.contains_iff_mem, ← HZ.out, ← HG.out]
              exact List.getElem_mem _
            have e : brk s odd = true := by unfold brk; rw [List.any_eq_true.2 ⟨q, HQ.out, hin⟩]; rfl
            rw [e]; rfl
          · have c3 : ((s[j].toNat : Int) == q) = false := beq_eq_false_iff_ne.mpr hz
            have HZ := Aside0.mk hz
            clear hz
            go_wp2
            go_round
            case rel =>
              refine ⟨j + 1, by omega, by go_num, ⟨?_⟩⟩
              rw [HS2.out, HG.out]
              have := HJ.out
              rw [← Bool.not_eq_true] at this ⊢
              rw [List.contains_iff_mem] at this ⊢
              intro hm
              rcases List.mem_append.1 hm with hm | hm
              · exact this hm
              · exact HZ.out (List.mem_singleton.1 hm).symm
            case measure => simp [intOf]; omega
        · obtain rfl : j = s.size := by omega
          have hfull : hasB s q = false := by
            have := HJ.out
            rw [List.take_of_length_le (by rw [bytesOf_length]; exact Nat.le_refl _)] at this
            exact this
          have HF := Aside0.mk hfull
          clear hfull
          go_wp2
          go_round
          case rel => exact ⟨k + 1, by omega, by go_num, ⟨by rw [HS.out, List.any_append, HT.out, List.any_cons, HF.out]; rfl⟩⟩
          case measure => simp [intOf]; omega
    · obtain rfl : k = odd.length := by omega
      go_wp2
      go_ret
      refine ⟨?_, Drawn0.refl _⟩
      have := HT.out
      rw [List.take_length] at this
      have e : brk s odd = s.toList.isEmpty := by unfold brk; rw [this, ByteArray.toList_eq]; rfl
      rw [e]; rfl

set_option maxHeartbeats 1000000 in
theorem without2_calls (s : ByteArray) (B : Nat) (most : Int) (w : World) (hs : s.size ≤ 9223372036854775807) (hB : w.cell? ⟨B, 0, none⟩ = some (.int .i64 most)) :
    Calls Tryd.prog 86 #[.string s, .pointer (some ⟨B, 0, none⟩)] w fun e w' => e = .returned (.bool (decide (most < (s.size : Int)))) ∧ Drawn0 w w' := by
  go_enter Tryd.func86, Tryd.ntmps86
  go_wp2
  go_ret
  exact ⟨rfl, Drawn0.refl _⟩

set_option maxHeartbeats 1000000 in
theorem without_calls (most : Int) (A : Option Addr) (n c : Nat) (w : World) :
    Calls Tryd.prog 40 #[.int .i64 most, .slice A n c] w fun e w' => e = .returned (.agg #[.func (.func 85) #[] #[.pointer (some ⟨w.heap.size + 1, 0, none⟩)], .int .u32 22, .func (.func 86) #[] #[.pointer (some ⟨w.heap.size, 0, none⟩)], .int .u32 63]) ∧
      w' = ((w.alloc (.cells #[.int .i64 most] 3)).alloc (.cells #[.slice A n c] 23)).alloc (.cells #[.func (.func 85) #[] #[.pointer (some ⟨w.heap.size + 1, 0, none⟩)], .int .u32 22, .func (.func 86) #[] #[.pointer (some ⟨w.heap.size, 0, none⟩)], .int .u32 63] 68) := by
  go_enter Tryd.func40, Tryd.ntmps40
  go_wp2
  exact bodyPost_ret (v := .agg #[.func (.func 85) #[] #[.pointer (some ⟨w.heap.size + 1, 0, none⟩)], .int .u32 22, .func (.func 86) #[] #[.pointer (some ⟨w.heap.size, 0, none⟩)], .int .u32 63]) (by simp [results, Tryd.results40, go_sem]) rfl ⟨rfl, rfl⟩

/-- What a text is, by such rules. -/
def isS (s : ByteArray) (most : Int) (odd : List Int) : Int := if brk s odd = true then 22 else if most < (s.size : Int) then 63 else 0

set_option maxHeartbeats 4000000 in
theorem is_calls (s : ByteArray) (B1 B2 : Nat) (most : Int) (A : Option Addr) (c : Nat) (odd : List Int) (w : World) (hs : s.size ≤ 9223372036854775807) (hB1 : w.cell? ⟨B1, 0, none⟩ = some (.slice A odd.length c)) (hR : RB w A odd) (hc : odd.length ≤ c) (hl : odd.length ≤ 100) (hB2 : w.cell? ⟨B2, 0, none⟩ = some (.int .i64 most)) :
    Calls Tryd.prog 39 #[.string s, .agg #[.func (.func 85) #[] #[.pointer (some ⟨B1, 0, none⟩)], .int .u32 22, .func (.func 86) #[] #[.pointer (some ⟨B2, 0, none⟩)], .int .u32 63]] w fun e w' => e = .returned (.int .u32 (isS s most odd)) ∧ Below w.heap.size w w' := by
  have HR := Aside0.mk hR
  have HC := Aside0.mk hc
  have HB1 := Aside0.mk hB1
  have HB2 := Aside0.mk hB2
  clear hR hc hB1 hB2
  have i0 : ∀ (x0 x1 x2 x3 : Value) w, (Instr.index 68 (.agg #[x0, x1, x2, x3]) (.int .i64 0)).run Tryd.prog w = .ok (.agg #[x0, x1]) w := fun _ _ _ _ _ => by kernel_rfl
  have i1 : ∀ (x0 x1 x2 x3 : Value) w, (Instr.index 68 (.agg #[x0, x1, x2, x3]) (.int .i64 1)).run Tryd.prog w = .ok (.agg #[x2, x3]) w := fun _ _ _ _ _ => by kernel_rfl
  by_cases hb : brk s odd = true
  · have e : isS s most odd = 22 := by unfold isS; rw [if_pos hb]
    rw [e]
    clear e
    have hw := fun W h1 h2 => without1_calls s B1 A c odd W hs h1 h2 HC.out hl
    rw [hb] at hw
    have HW := Aside0.mk hw
    clear hw hb
    go_enter Tryd.func39, Tryd.ntmps39
    go_wp2
    refine wp_loop_rounds 3 ?_
    rw [rounds_succ]
    go_wp2_with fail
    refine (HW.out _ (pw_cell_below (below_alloc (below_alloc (Below.refl _ _) _) _) HB1.out) (Kd.C_alloc (Kd.C_alloc HR.out _) _)).mono ?_
    rintro e w1 ⟨rfl, ⟨nd, rfl⟩⟩
    go_wp2
    go_ret
    exact ⟨rfl, pw_below_drewN (below_alloc (below_alloc (Below.refl _ _) _) _) _⟩
  · have hw := fun W h1 h2 => without1_calls s B1 A c odd W hs h1 h2 HC.out hl
    rw [Bool.not_eq_true] at hb
    rw [hb] at hw
    have HW := Aside0.mk hw
    have hw2 := fun W h1 => without2_calls s B2 most W hs h1
    have e : isS s most odd = if most < (s.size : Int) then 63 else 0 := by unfold isS; rw [hb, if_neg (by simp)]
    rw [e]
    clear e hw hb
    by_cases hm : most < (s.size : Int)
    · rw [decide_eq_true hm] at hw2
      rw [if_pos hm]
      have HW2 := Aside0.mk hw2
      clear hw2 hm
      go_enter Tryd.func39, Tryd.ntmps39
      go_wp2
      refine wp_loop_rounds 3 ?_
      rw [rounds_succ]
      go_wp2_with fail
      refine (HW.out _ (pw_cell_below (below_alloc (below_alloc (Below.refl _ _) _) _) HB1.out) (Kd.C_alloc (Kd.C_alloc HR.out _) _)).mono ?_
      rintro e w1 ⟨rfl, ⟨nd, rfl⟩⟩
      go_wp2
      rw [rounds_succ]
      go_wp2_with fail
      refine (HW2.out _ (pw_cell_below (below_alloc (pw_below_drewN (below_alloc (below_alloc (Below.refl _ _) _) _) _) _) HB2.out)).mono ?_
      rintro e w1 ⟨rfl, ⟨nd2, rfl⟩⟩
      go_wp2
      go_ret
      exact ⟨rfl, pw_below_drewN (below_alloc (pw_below_drewN (below_alloc (below_alloc (Below.refl _ _) _) _) _) _) _⟩
    · rw [decide_eq_false hm] at hw2
      rw [if_neg hm]
      have HW2 := Aside0.mk hw2
      clear hw2 hm
      go_enter Tryd.func39, Tryd.ntmps39
      go_wp2
      refine wp_loop_rounds 3 ?_
      rw [rounds_succ]
      go_wp2_with fail
      refine (HW.out _ (pw_cell_below (below_alloc (below_alloc (Below.refl _ _) _) _) HB1.out) (Kd.C_alloc (Kd.C_alloc HR.out _) _)).mono ?_
      rintro e w1 ⟨rfl, ⟨nd, rfl⟩⟩
      go_wp2
      rw [rounds_succ]
      go_wp2_with fail
      refine (HW2.out _ (pw_cell_below (below_alloc (pw_below_drewN (below_alloc (below_alloc (Below.refl _ _) _) _) _) _) HB2.out)).mono ?_
      rintro e w1 ⟨rfl, ⟨nd2, rfl⟩⟩
      go_wp2
      rw [rounds_succ]
      go_wp2
      go_ret
      exact ⟨rfl, pw_below_drewN (below_alloc (pw_below_drewN (below_alloc (below_alloc (Below.refl _ _) _) _) _) _) _⟩
theorem cell_at (W : World) (v : Value) (t : TypeId) (B : Nat) (hB : B = W.heap.size) : (W.alloc (.cells #[v] t)).cell? ⟨B, 0, none⟩ = some v := by
  subst hB; exact (blk_cell (heap_alloc_new W (.cells #[v] t)) 0).trans rfl
theorem lit_reads (W : World) (xs : List Int) (cs : Array Value) (fr : Nat × Nat) (hcs : cs = (nums .u8 xs).toArray) (hl : xs.length ≤ 9223372036854775807) :
    RB (W.alloc (.cells cs 5 fr)) (some ⟨W.heap.size, 0, none⟩) xs := by
  subst hcs
  refine Kd.C_of_reads (d := (0 : Int)) (h1 := fun _ => rfl) ⟨rfl, hl, fun _ => ⟨_, rfl, fun j hj => ?_⟩⟩
  have h := cell_of_row (W.alloc (.cells (nums .u8 xs).toArray 5 fr)) W.heap.size j (nums .u8 xs).toArray 5 fr (heap_alloc_new W _)
  rw [add_plain, h]
  simp [nums, List.getD_eq_getElem?_getD, List.getElem?_eq_getElem hj]

def strings_Name.f (a0 : ByteArray) : Option Int := if a0.size ≤ 9223372036854775807 then some (isS a0 255 [0, 47]) else none
set_option maxHeartbeats 2000000 in
theorem strings_Name.calls (a0 : ByteArray) (r : Int) (w : World) (h : strings_Name.f a0 = some r) :
    Calls Tryd.prog 12 #[.string a0] w fun e w' => e = .returned (.int .u32 r) ∧ Below w.heap.size w w' := by
  unfold strings_Name.f at h
  by_cases hs : a0.size ≤ 9223372036854775807
  · rw [if_pos hs] at h
    obtain rfl := Option.some.inj h
    have HS := Aside0.mk hs
    clear h hs
    have HL := Aside0.mk (lit_reads w [0, 47] #[.int .u8 0, .int .u8 47] (0, 0) rfl (by decide))
    go_enter Tryd.func12, Tryd.ntmps12
    go_wp2_with fail
    refine (without_calls _ _ _ _ _).mono ?_
    rintro e w1 ⟨rfl, rfl⟩
    go_wp2_with fail
    refine (is_calls a0 (w.heap.size + 1 + 1) (w.heap.size + 1) 255 (some ⟨w.heap.size, 0, none⟩) 2 [0, 47] _ HS.out (pw_cell_below (below_alloc (Below.refl _ _) _) (cell_at _ _ _ _ (by simp))) (Kd.C_alloc (Kd.C_alloc (Kd.C_alloc HL.out _) _) _) (by decide) (by decide) (pw_cell_below (below_alloc (below_alloc (Below.refl _ _) _) _) (cell_at _ _ _ _ (by simp)))).mono ?_
    rintro e w2 ⟨rfl, hb⟩
    go_wp2
    go_ret
    exact ⟨rfl, below_then (below_alloc (below_alloc (below_alloc (below_alloc (Below.refl _ _) _) _) _) _) (by simp; omega) hb⟩
  · rw [if_neg hs] at h; cases h

def strings_Path.f (a0 : ByteArray) : Option Int := if a0.size ≤ 9223372036854775807 then some (isS a0 1024 [0]) else none
set_option maxHeartbeats 2000000 in
theorem strings_Path.calls (a0 : ByteArray) (r : Int) (w : World) (h : strings_Path.f a0 = some r) :
    Calls Tryd.prog 14 #[.string a0] w fun e w' => e = .returned (.int .u32 r) ∧ Below w.heap.size w w' := by
  unfold strings_Path.f at h
  by_cases hs : a0.size ≤ 9223372036854775807
  · rw [if_pos hs] at h
    obtain rfl := Option.some.inj h
    have HS := Aside0.mk hs
    clear h hs
    have HL := Aside0.mk (lit_reads w [0] #[.int .u8 0] (0, 0) rfl (by decide))
    go_enter Tryd.func14, Tryd.ntmps14
    go_wp2_with fail
    refine (without_calls _ _ _ _ _).mono ?_
    rintro e w1 ⟨rfl, rfl⟩
    go_wp2_with fail
    refine (is_calls a0 (w.heap.size + 1 + 1) (w.heap.size + 1) 1024 (some ⟨w.heap.size, 0, none⟩) 1 [0] _ HS.out (pw_cell_below (below_alloc (Below.refl _ _) _) (cell_at _ _ _ _ (by simp))) (Kd.C_alloc (Kd.C_alloc (Kd.C_alloc HL.out _) _) _) (by decide) (by decide) (pw_cell_below (below_alloc (below_alloc (Below.refl _ _) _) _) (cell_at _ _ _ _ (by simp)))).mono ?_
    rintro e w2 ⟨rfl, hb⟩
    go_wp2
    go_ret
    exact ⟨rfl, below_then (below_alloc (below_alloc (below_alloc (below_alloc (Below.refl _ _) _) _) _) _) (by simp; omega) hb⟩
  · rw [if_neg hs] at h; cases h
end Go.Proofs.YtncplnobmiljfaaDoor.Hand
