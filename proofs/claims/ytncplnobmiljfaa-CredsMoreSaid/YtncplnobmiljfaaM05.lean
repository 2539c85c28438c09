import Derived.Test.YtncplnobmiljfaaT2
import Derived.Test.YtncplnobmiljfaaQ05b
import Derived.Deep.RegionHeld3
import Derived.Deep.RegionWith
namespace Go.Proofs.Ytncplnobmiljfaa.Hand
open Go.RowKit Go.Proofs.Ytncplnobmiljfaa.GB Go.Proofs.Ytncplnobmiljfaa.GC Go.Proofs.YtncplnobmiljfaaW.PrintWords Go.Proofs.YtncplnobmiljfaaW.PrintLast Go.Proofs.YtncplnobmiljfaaW.PrintMore
set_option linter.unusedVariables false
set_option linter.unusedSimpArgs false

/-- Somebody's block and what is read of him, behind a step. -/
structure Who (w0 w : World) (C : Nat) (u g : Int) (A : Option Addr) (c : Nat) (l : List Int) : Prop where
  cred : Cred3 w C u g (.slice A l.length c)
  row : Kd.C (Kd.int .u32) w A l.length l
  bel : Below w0.heap.size w0 w
theorem Who.step {w0 w w' : World} {C : Nat} {u g : Int} {A : Option Addr} {c : Nat} {l : List Int} (h : Who w0 w C u g A c l) (hb : Below w.heap.size w w') : Who w0 w' C u g A c l :=
  ⟨h.cred.below hb, Kd.C_below h.row hb, below_then h.bel h.bel.size hb⟩
theorem Who.drew {w0 w : World} {C : Nat} {u g : Int} {A : Option Addr} {c : Nat} {l : List Int} (h : Who w0 w C u g A c l) : Who w0 w.drew C u g A c l :=
  ⟨h.cred, h.row, below_drew1 h.bel⟩
theorem amongStep (xs : List Int) (x : Int) (i : Nat) (h : i < xs.length) : decide (x ∈ xs.take (i + 1)) = (decide (x ∈ xs.take i) || (xs[i] == x)) := by
  rw [List.take_succ_eq_append_getElem h]
  by_cases h1 : x ∈ xs.take i
  · rw [decide_eq_true h1, decide_eq_true (List.mem_append_left _ h1)]; rfl
  · rw [decide_eq_false h1, Bool.false_or]
    by_cases h2 : xs[i] = x
    · rw [beq_iff_eq.mpr h2]; exact decide_eq_true (List.mem_append_right _ (by rw [h2]; exact List.mem_cons_self ..))
    · rw [beq_eq_false_iff_ne.mpr h2]
      refine decide_eq_false (fun h3 => ?_)
      rcases List.mem_append.1 h3 with h3 | h3
      · exact h1 h3
      · exact h2 (List.mem_singleton.1 h3).symm
theorem in_nil (k : Nat) (u g x : Int) (b : Bool) (w : World) (h : creds_In.f k u g [] x = some b) :
    Calls Try.prog 36 #[.agg #[.int .u32 u, .int .u32 g, .slice none 0 0], .int .u32 x] w fun e w' => e = .returned (.bool b) ∧ Below w.heap.size w w' :=
  creds_In.calls k u g none 0 [] x b w (Kd.C_nil _ _) (Nat.le_refl _) h
set_option maxHeartbeats 8000000 in
set_option maxRecDepth 100000 in
theorem wharfingerlaw05_CredsMore.calls (u g x : Int) (A : Option Addr) (c : Nat) (l : List Int) (A1 : Option Addr) (c1 : Nat) (more : List Int) (k : Nat) (w : World) (hR : Kd.C (Kd.int .u32) w A l.length l) (hc : l.length ≤ c) (hl : l.length ≤ 140737488351232)
    (hR1 : Kd.C (Kd.int .u32) w A1 more.length more) (hc1 : more.length ≤ c1) (hl1 : more.length ≤ 140737488351232) (b : Bool)
    (hin : l.length + more.length ≤ 1048576 → creds_In.f k u g l x = some b) (hind : l.length + more.length ≤ 1048576 → creds_In.f k u g (more ++ l) x = some (b || decide (x ∈ more)))
    (hing : l.length + more.length ≤ 1048576 → creds_In.f k u g l g = some true) (hin0 : creds_In.f k 0 g [] x = some (x == g)) :
    Calls Try.prog 13 #[.agg #[.int .u32 u, .int .u32 g, .slice A l.length c], .slice A1 more.length c1, .int .u32 x] w fun e w' => e = .returned (.bool true) ∧ Below w.heap.size w w' := by
  obtain ⟨wb, hwb⟩ : ∃ wb, w.alloc (.cells #[.int .u32 u, .int .u32 g, .slice A l.length c] 43) = wb := ⟨_, rfl⟩
  have hb0 : Below w.heap.size w wb := hwb ▸ below_alloc (Below.refl w.heap.size w) _
  have HR0 := Aside0.mk hR
  have HM0 := Aside0.mk hR1
  have HX := Aside0.mk (show Who w wb w.heap.size u g A c l from ⟨hwb ▸ cred3_new w u g (.slice A l.length c), Kd.C_below hR hb0, hb0⟩)
  have HM := Aside0.mk (Kd.C_below hR1 hb0)
  have HW := Aside0.mk hwb
  have HC := Aside0.mk hc
  have HC1 := Aside0.mk hc1
  have HN0 := Aside0.mk (show ∀ x ∈ [(l.length : Int), (more.length : Int)], 0 ≤ x by simp)
  have HS0 := Aside0.mk (show [(l.length : Int), (more.length : Int)].sum < 4611686018427387904 by simp; omega)
  clear hR hR1 hwb hb0 hc hc1
  by_cases hbig : (l.length : Int) + more.length > 1048576
  · have HBY := Aside0.mk (show decide ([(l.length : Int), (more.length : Int)].sum > 1048576) = true by simpa using hbig)
    clear hbig hin hind hing hin0
    go_enter Try.func13, Try.ntmps13
    go_wp2_with fail
    rw [HW.out]
    refine (wharfingerlaw05_alive.calls true _ rfl).mono ?_
    rintro e w1 ⟨rfl, hb1⟩
    have HX1 := Aside0.mk (HX.out.step hb1)
    have x2 := HX1.out.cred.c2
    clear hb1
    go_wp2_with fail
    refine (beyond_calls [(l.length : Int), (more.length : Int)] true _ 2 _ (lit_readsK .i64 _ _ _ _ _ rfl (by simp)) (by simp) HN0.out (by simp) HS0.out HBY.out).mono ?_
    rintro e w2 ⟨rfl, ⟨nd, rfl⟩⟩
    go_wp2_with fail
    refine (wharfingerlaw05_alive.calls true _ rfl).mono ?_
    rintro e w3 ⟨rfl, hb3⟩
    go_wp2
    go_ret
    exact ⟨rfl, below_then (pw_below_drewN (below_alloc HX1.out.bel _) _) (by have := HX1.out.bel.size; simp; omega) hb3⟩
  · have HBY := Aside0.mk (show decide ([(l.length : Int), (more.length : Int)].sum > 1048576) = false by simpa using hbig)
    have hl2 : l.length + more.length ≤ 1048576 := by omega
    have HIN := Aside0.mk (hin hl2)
    have HIND := Aside0.mk (hind hl2)
    have HING := Aside0.mk (hing hl2)
    have HIN0 := Aside0.mk hin0
    have hml : more.length ≤ 1048576 := by omega
    have HTL1 := Aside0.mk (show (([] : List Int).length + more.length) * 4 ≤ 140737488355328 by simp; omega)
    have HTL2 := Aside0.mk (show (more.length + l.length) * 4 ≤ 140737488355328 by omega)
    clear hbig hin hind hing hin0 hl hl1
    obtain ⟨y, hy⟩ : ∃ y, y = more ++ l := ⟨_, rfl⟩
    rw [← hy] at HIND
    have HY := Aside0.mk hy
    have HYL := Aside0.mk (show more.length + l.length = y.length by rw [hy, List.length_append])
    obtain ⟨a, ha⟩ : ∃ a, decide (x ∈ more) = a := ⟨_, rfl⟩
    rw [ha] at HIND
    have HAA := Aside0.mk ha
    clear hy ha
    go_enter Try.func13, Try.ntmps13
    go_wp2_with fail
    rw [HW.out]
    refine (wharfingerlaw05_alive.calls true _ rfl).mono ?_
    rintro e w1 ⟨rfl, hb1⟩
    have HX1 := Aside0.mk (HX.out.step hb1)
    have HM1 := Aside0.mk (Kd.C_below HM.out hb1)
    have x2 := HX1.out.cred.c2
    clear hb1 HX HM
    go_wp2_with fail
    refine (beyond_calls [(l.length : Int), (more.length : Int)] false _ 2 _ (lit_readsK .i64 _ _ _ _ _ rfl (by simp)) (by simp) HN0.out (by simp) HS0.out HBY.out).mono ?_
    rintro e w2 ⟨rfl, ⟨nd, rfl⟩⟩
    obtain ⟨w3, hw3⟩ : ∃ w3, (w1.alloc (.cells (nums .i64 [(l.length : Int), (more.length : Int)]).toArray 3)).drewN nd = w3 := ⟨_, rfl⟩
    have hb3 : Below w1.heap.size w1 w3 := hw3 ▸ pw_below_drewN (below_alloc (Below.refl _ _) _) _
    have HX3 := Aside0.mk (HX1.out.step hb3)
    have HM3 := Aside0.mk (Kd.C_below HM1.out hb3)
    have x2' := HX3.out.cred.c2
    rw [hw3]
    clear hb3 HX1 HM1 x2 hw3
    go_wp2_with (first | (at_builtin; refine Kd.R_append_row (Value.int .u32) (0 : Int) (h1 := fun _ => rfl) (w0 := w) w.heap.size rfl (.tmp 23) (.tmp 24) 41 33 (.int .u32 0) 4 rfl Try.underlying41 info_t32 rfl (by decide) _ ([] : List Int) more A1 _ c1 (fun _ => True) rfl rfl (fun _ _ => trivial) (Kd.R_nil _ _ _ _ _) HM3.out HX3.out.bel HX3.out.bel.size HTL1.out ?_; intro v4 w4 ho4 hb4 hg4 hat4; rw [List.nil_append] at ho4; obtain ⟨A4, c4, rfl, hle4, hR4⟩ := Kd.R_reads ho4; have HX4 := Aside0.mk (HX3.out.step (Below.grown (Below.refl w3.heap.size w3) hg4 (Nat.le_refl _) (fun _ h => by cases h))); have HO4 := Aside0.mk ho4; have x4 := HX4.out.cred.c2; clear HX3 HM3 x2' ho4 hb4 hg4 hat4 hle4 hR4) | (at_builtin; refine Kd.R_append_row (Value.int .u32) (0 : Int) (h1 := fun _ => rfl) (w0 := w) w.heap.size rfl (.tmp 26) (.tmp 28) 41 33 (.int .u32 0) 4 rfl Try.underlying41 info_t32 rfl (by decide) _ more l A _ c (fun _ => True) rfl rfl (fun _ _ => trivial) HO4.out HX4.out.row HX4.out.bel HX4.out.bel.size HTL2.out ?_; intro v5 w5 ho5 hb5 hg5 hat5; rw [← HY.out] at ho5; obtain ⟨A5, c5, rfl, hle5, hR5⟩ := Kd.R_reads ho5; have HX5 := Aside0.mk (show Who w w5 w.heap.size u g A c l from ⟨(hg5.block _ HX4.out.cred.lt (Kd.R_ne HO4.out HX4.out.cred (by decide))).trans HX4.out.cred, Kd.C_below HR0.out hb5, hb5⟩); have HM5 := Aside0.mk (Kd.C_below HM0.out hb5); have HR5 := Aside0.mk hR5; have HC5 := Aside0.mk hle5; have x50 := HX5.out.cred.c0; have x51 := HX5.out.cred.c1; have x52 := HX5.out.cred.c2; clear HX4 HO4 x4 ho5 hb5 hg5 hat5 hle5 hR5))
    obtain ⟨w6, hw6⟩ : ∃ w6, w5.alloc (.cells #[.int .u32 u, .int .u32 g, .slice A5 y.length c5] 43) = w6 := ⟨_, rfl⟩
    have hb6 : Below w5.heap.size w5 w6 := hw6 ▸ below_alloc (Below.refl _ _) _
    have HX6 := Aside0.mk (HX5.out.step hb6)
    have HD6 := Aside0.mk (show Who w w6 w5.heap.size u g A5 c5 y from ⟨hw6 ▸ cred3_new w5 u g _, Kd.C_below HR5.out hb6, below_then HX5.out.bel HX5.out.bel.size hb6⟩)
    have HM6 := Aside0.mk (Kd.C_below HM5.out hb6)
    rw [hw6]
    clear hb6 hw6 HX5 HM5 HR5 x50 x51 x52
    go_loop [9, 10] (fun v9 v10 => ∃ k : Nat, k ≤ more.length ∧ v10 = .int .i64 k ∧ ∃ q : Bool, v9 = .bool q ∧ Aside0 (decide (x ∈ more.take k) = q)) (fun _ v10 => more.length - (intOf v10).toNat)
    case atStart => exact ⟨0, Nat.zero_le _, rfl, false, rfl, ⟨by simp⟩⟩
    case round =>
      obtain ⟨k, hk, rfl, q, rfl, HQ⟩ := hrel
      by_cases hlt : k < more.length
      · cases q with
        | true =>
          have HS := Aside0.mk (show decide (x ∈ more.take (k + 1)) = true by rw [amongStep more x k hlt, HQ.out]; rfl)
          go_wp2
          go_round
          case rel => exact ⟨k + 1, by omega, by go_num, true, rfl, HS⟩
          case measure => simp [intOf]; omega
        | false =>
          obtain ⟨ad, rfl, hcell⟩ := Kd.at_int HM6.out (k : Int) (by omega) (by omega)
          have hrd : rd more (k : Int) = more[k] := by unfold rd; rw [Int.toNat_natCast, List.getD_eq_getElem?_getD, List.getElem?_eq_getElem hlt]; rfl
          rw [hrd, Int.toNat_natCast] at hcell
          have HS := Aside0.mk (show decide (x ∈ more.take (k + 1)) = (more[k] == x) by rw [amongStep more x k hlt, HQ.out]; rfl)
          clear hrd
          go_wp2
          go_round
          case rel => exact ⟨k + 1, by omega, by go_num, _, rfl, HS⟩
          case measure => simp [intOf]; omega
      · obtain rfl : k = more.length := by omega
        have hqa : a = q := by have h1 := HQ.out; have h2 := HAA.out; rw [List.take_length] at h1; exact h2.symm.trans h1
        subst hqa
        have y0 := HX6.out.cred.c0
        have y1 := HX6.out.cred.c1
        have y2 := HX6.out.cred.c2
        have z0 := HD6.out.cred.c0
        have z1 := HD6.out.cred.c1
        have z2 := HD6.out.cred.c2
        clear HQ
        have HX7 := Aside0.mk HX6.out.drew
        have HD7 := Aside0.mk HD6.out.drew
        have bb : ((x == g) == (x == g)) = true := by simp
        have aa : (a == a) = true := by simp
        clear HX6 HD6 HM6
        cases b with
        | true =>
          have HIND2 : Aside0 (creds_In.f k u g y x = some true) := ⟨HIND.out⟩
          go_wp2_with fail
          first | (go_region_held (fun w' => (w'.cell? ⟨w.heap.size, 0, none⟩ = some (.int .u32 u) ∧ w'.cell? ⟨w.heap.size, 1, none⟩ = some (.int .u32 g) ∧ w'.cell? ⟨w.heap.size, 2, none⟩ = some (.slice A l.length c)) ∧ w'.cell? ⟨w5.heap.size, 0, none⟩ = some (.int .u32 u) ∧ w'.cell? ⟨w5.heap.size, 1, none⟩ = some (.int .u32 g) ∧ w'.cell? ⟨w5.heap.size, 2, none⟩ = some (.slice A5 y.length c5)) (first | exact ⟨⟨HX7.out.cred.c0, HX7.out.cred.c1, HX7.out.cred.c2⟩, HD7.out.cred.c0, HD7.out.cred.c1, HD7.out.cred.c2⟩ | go_keep)
            (first | (go_at_call 36; (with_reducible refine (creds_In.calls k u g A5 c5 y x true _ HD7.out.row HC5.out HIND2.out).mono ?_); rintro e w7 ⟨rfl, hb⟩; have HXn := Aside0.mk (HX7.out.step hb); have HDn := Aside0.mk (HD7.out.step hb); clear hb HX7 HD7; have HX7 := HXn; have HD7 := HDn; clear HXn HDn) | (go_at_call 36; (with_reducible refine (creds_In.calls k u g A c l x true _ HX7.out.row HC.out HIN.out).mono ?_); rintro e w7 ⟨rfl, hb⟩; have HXn := Aside0.mk (HX7.out.step hb); have HDn := Aside0.mk (HD7.out.step hb); clear hb HX7 HD7; have HX7 := HXn; have HD7 := HDn; clear HXn HDn) | (go_at_call 36; (with_reducible refine (creds_In.calls k u g A c l g true _ HX7.out.row HC.out HING.out).mono ?_); rintro e w7 ⟨rfl, hb⟩; have HXn := Aside0.mk (HX7.out.step hb); have HDn := Aside0.mk (HD7.out.step hb); clear hb HX7 HD7; have HX7 := HXn; have HD7 := HDn; clear HXn HDn) | (go_at_call 36; (with_reducible refine (in_nil k 0 g x (x == g) _ HIN0.out).mono ?_); rintro e w7 ⟨rfl, hb⟩; have HXn := Aside0.mk (HX7.out.step hb); have HDn := Aside0.mk (HD7.out.step hb); clear hb HX7 HD7; have HX7 := HXn; have HD7 := HDn; clear HXn HDn))) | fail
          all_goals
            go_wp2
            go_ret
            exact ⟨rfl, HX7.out.bel⟩
        | false =>
          have HIND2 : Aside0 (creds_In.f k u g y x = some a) := ⟨HIND.out⟩
          go_wp2_with fail
          go_region_held3 (fun w' => (w'.cell? ⟨w.heap.size, 0, none⟩ = some (.int .u32 u) ∧ w'.cell? ⟨w.heap.size, 1, none⟩ = some (.int .u32 g) ∧ w'.cell? ⟨w.heap.size, 2, none⟩ = some (.slice A l.length c)) ∧ w'.cell? ⟨w5.heap.size, 0, none⟩ = some (.int .u32 u) ∧ w'.cell? ⟨w5.heap.size, 1, none⟩ = some (.int .u32 g) ∧ w'.cell? ⟨w5.heap.size, 2, none⟩ = some (.slice A5 y.length c5)) (first | exact ⟨⟨HX7.out.cred.c0, HX7.out.cred.c1, HX7.out.cred.c2⟩, HD7.out.cred.c0, HD7.out.cred.c1, HD7.out.cred.c2⟩ | go_keep)
            (first | (go_at_call 36; (with_reducible refine (creds_In.calls k u g A5 c5 y x a _ HD7.out.row HC5.out HIND2.out).mono ?_); rintro e w7 ⟨rfl, hb⟩; have HXn := Aside0.mk (HX7.out.step hb); have HDn := Aside0.mk (HD7.out.step hb); clear hb HX7 HD7; have HX7 := HXn; have HD7 := HDn; clear HXn HDn) | (go_at_call 36; (with_reducible refine (creds_In.calls k u g A c l x false _ HX7.out.row HC.out HIN.out).mono ?_); rintro e w7 ⟨rfl, hb⟩; have HXn := Aside0.mk (HX7.out.step hb); have HDn := Aside0.mk (HD7.out.step hb); clear hb HX7 HD7; have HX7 := HXn; have HD7 := HDn; clear HXn HDn) | (go_at_call 36; (with_reducible refine (creds_In.calls k u g A c l g true _ HX7.out.row HC.out HING.out).mono ?_); rintro e w7 ⟨rfl, hb⟩; have HXn := Aside0.mk (HX7.out.step hb); have HDn := Aside0.mk (HD7.out.step hb); clear hb HX7 HD7; have HX7 := HXn; have HD7 := HDn; clear HXn HDn) | (go_at_call 36; (with_reducible refine (in_nil k 0 g x (x == g) _ HIN0.out).mono ?_); rintro e w7 ⟨rfl, hb⟩; have HXn := Aside0.mk (HX7.out.step hb); have HDn := Aside0.mk (HD7.out.step hb); clear hb HX7 HD7; have HX7 := HXn; have HD7 := HDn; clear HXn HDn))
          all_goals
            go_wp2
            go_ret
            exact ⟨rfl, HX7.out.bel⟩
end Go.Proofs.Ytncplnobmiljfaa.Hand
