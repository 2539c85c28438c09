import Derived.Test.YtoalknneifpehaaQ06g
namespace Go.Proofs.Ytoalknneifpehaa.Hand
open Go.RowKit Go.Proofs.Ytoalknneifpehaa.GB Go.Proofs.Ytoalknneifpehaa.GC Go.Proofs.Ytoalknneifpehaa.G6S Go.Proofs.YtoalknneifpehaaW.PrintWords Go.Proofs.YtoalknneifpehaaW.PrintLast Go.Proofs.YtoalknneifpehaaW.PrintMore
set_option linter.unusedVariables false
set_option linter.unusedSimpArgs false

/-- A call and bytes that came; the call in a block of its own. -/
structure NB6 (w0 w : World) (x p v o f : Int) (m : ByteArray) (s u g : Int) (Ag : Option Addr) (cg : Nat) (gs : List Int) (Ab : Option Addr) (cb : Nat) (b : List Int) (Am : Option Addr) (more : List Int) : Prop where
  be : Below w0.heap.size w0 w
  blk : Call11 w w0.heap.size x p v o f m s u g (.slice Ag gs.length cg) (.slice Ab b.length cb)
  G : Kd.C (Kd.int .u32) w Ag gs.length gs
  B : Kd.C (Kd.int .u8) w Ab b.length b
  M : Kd.C (Kd.int .u8) w Am more.length more
theorem NB6.step {w0 w w1 : World} {x p v o f : Int} {m : ByteArray} {s u g : Int} {Ag : Option Addr} {cg : Nat} {gs : List Int} {Ab : Option Addr} {cb : Nat} {b : List Int} {Am : Option Addr} {more : List Int} (h : NB6 w0 w x p v o f m s u g Ag cg gs Ab cb b Am more) (hbe : Below w.heap.size w w1) : NB6 w0 w1 x p v o f m s u g Ag cg gs Ab cb b Am more :=
  ⟨below_then h.be h.be.size hbe, h.blk.below hbe, Kd.C_below h.G hbe, Kd.C_below h.B hbe, Kd.C_below h.M hbe⟩
theorem NB6.start {w : World} {x p v o f : Int} {m : ByteArray} {s u g : Int} {Ag : Option Addr} {cg : Nat} {gs : List Int} {Ab : Option Addr} {cb : Nat} {b : List Int} {Am : Option Addr} {more : List Int} (hg : Kd.C (Kd.int .u32) w Ag gs.length gs) (hb : Kd.C (Kd.int .u8) w Ab b.length b) (hm : Kd.C (Kd.int .u8) w Am more.length more) : NB6 w (w.alloc (.cells #[.int .u32 x, .int .u32 p, .int .u32 v, .int .u32 o, .int .u32 f, .string m, .int .u32 s, .int .u32 u, .int .u32 g, .slice Ag gs.length cg, .slice Ab b.length cb] 28)) x p v o f m s u g Ag cg gs Ab cb b Am more := by
  have h := below_alloc (Below.refl w.heap.size w) (.cells #[.int .u32 x, .int .u32 p, .int .u32 v, .int .u32 o, .int .u32 f, .string m, .int .u32 s, .int .u32 u, .int .u32 g, .slice Ag gs.length cg, .slice Ab b.length cb] 28)
  exact ⟨h, call11_new w _ _ _ _ _ _ _ _ _ _ _, Kd.C_below hg h, Kd.C_below hb h, Kd.C_below hm h⟩
theorem Call11.all {w : World} {C : Nat} {x p v o f : Int} {m : ByteArray} {s u g : Int} {Vg Vb : Value} (h : Call11 w C x p v o f m s u g Vg Vb) : w.cell? ⟨C, 0, none⟩ = some (.int .u32 x) ∧ w.cell? ⟨C, 1, none⟩ = some (.int .u32 p) ∧ w.cell? ⟨C, 2, none⟩ = some (.int .u32 v) ∧ w.cell? ⟨C, 3, none⟩ = some (.int .u32 o) ∧ w.cell? ⟨C, 4, none⟩ = some (.int .u32 f) ∧ w.cell? ⟨C, 5, none⟩ = some (.string m) ∧ w.cell? ⟨C, 6, none⟩ = some (.int .u32 s) ∧ w.cell? ⟨C, 7, none⟩ = some (.int .u32 u) ∧ w.cell? ⟨C, 8, none⟩ = some (.int .u32 g) ∧ w.cell? ⟨C, 9, none⟩ = some (Vg) ∧ w.cell? ⟨C, 10, none⟩ = some (Vb) :=
  ⟨h.c0, h.c1, h.c2, h.c3, h.c4, h.c5, h.c6, h.c7, h.c8, h.c9, h.c10⟩
theorem sameCall_self (k : Nat) (x p v o f : Int) (m : ByteArray) (s u g : Int) (gs b : List Int) (hl : gs.length ≤ 1000000000) (hb : b.length ≤ 4611686018427387904) (hk : gs.length < k) (hk2 : b.length < k) : wharfingerlaw01_SameCall.f k x p v o f m s u g gs b x p v o f m s u g gs b = some true := by
  unfold wharfingerlaw01_SameCall.f
  rw [if_pos rfl, if_pos rfl, if_pos rfl, if_pos rfl, if_pos rfl, if_pos rfl, if_pos rfl, sameCred_self k u g gs hl hk, Option.bind_some, if_pos rfl, same_self k b hb hk2]
  rfl
theorem byteOk_callB (x p v o f : Int) (m : ByteArray) (s u g : Int) (gs : List Int) : byteOk (callB x p v o f m s u g gs) = true := by
  unfold callB whoL
  refine byteOk_append (byteOk_nums _) (byteOk_append (byteOk_putL _ ?_) (byteOk_append (byteOk_be4 0) (byteOk_putL _ rfl)))
  split
  · exact byteOk_credB s m u g gs
  · rfl
theorem getF_put {x p v o f : Int} {m : ByteArray} {s u g : Int} {gs b : List Int} (h : CallOk x p v o f m s u g gs) (hb : byteOk b = true) (hl : (callB x p v o f m s u g gs ++ b).length ≤ 65536) : calls_Get.f (callB x p v o f m s u g gs ++ b) = some (x, p, v, o, f, m, s, u, g, gs, b, 0) := by
  unfold calls_Get.f
  rw [if_pos (byteOk_append (byteOk_callB _ _ _ _ _ _ _ _ _ _) hb), cget_put h b hl]
theorem getF_cut {x p v o f : Int} {m : ByteArray} {s u g : Int} {gs b : List Int} (h : CallOk x p v o f m s u g gs) (hb : byteOk b = true) (i : Nat) (hi : i < (callB x p v o f m s u g gs).length) : calls_Get.f ((callB x p v o f m s u g gs ++ b).take i) = some (0, 0, 0, 0, 0, ByteArray.empty, 0, 0, 0, [], [], 4) := by
  have h1 := callB_most h
  have ht : (callB x p v o f m s u g gs ++ b).take i = (callB x p v o f m s u g gs).take i := List.take_append_of_le_length (by omega)
  have hok : byteOk ((callB x p v o f m s u g gs).take i) = true := byteOk_take (byteOk_callB _ _ _ _ _ _ _ _ _ _) i
  have he := call_cut h i hi
  have hz := (callH_E hok).2 (by rw [he]; omega)
  unfold calls_Get.f callG
  rw [ht, if_pos hok, if_neg (by rw [List.length_take]; omega), hz, he]
  rfl
set_option maxHeartbeats 8000000 in
set_option maxRecDepth 100000 in
theorem callsBack_calls (x p v o f : Int) (m : ByteArray) (s u g : Int) (Ag : Option Addr) (cg : Nat) (gs : List Int) (Ab : Option Addr) (cb : Nat) (b : List Int) (Am : Option Addr) (more : List Int) (cm : Nat) (w : World) (hA : CallA x p v o f m s u g gs b) (hrg : Kd.C (Kd.int .u32) w Ag gs.length gs) (hcg : gs.length ≤ cg) (hrb : Kd.C (Kd.int .u8) w Ab b.length b) (hcb : b.length ≤ cb) (hrm : Kd.C (Kd.int .u8) w Am more.length more) (hcm : more.length ≤ cm) (hob : byteOk b = true) (hom : byteOk more = true) (hlm : more.length ≤ 140737488351232) :
    Calls Try.prog 3 #[.agg #[.int .u32 x, .int .u32 p, .int .u32 v, .int .u32 o, .int .u32 f, .string m, .int .u32 s, .int .u32 u, .int .u32 g, .slice Ag gs.length cg, .slice Ab b.length cb], .slice Am more.length cm] w fun e w' => e = .returned (.bool true) ∧ Below w.heap.size w w' := by
  obtain ⟨wb, hwb⟩ : ∃ wb, w.alloc (.cells #[.int .u32 x, .int .u32 p, .int .u32 v, .int .u32 o, .int .u32 f, .string m, .int .u32 s, .int .u32 u, .int .u32 g, .slice Ag gs.length cg, .slice Ab b.length cb] 28) = wb := ⟨_, rfl⟩
  have HS := Aside0.mk (show NB6 w wb x p v o f m s u g Ag cg gs Ab cb b Am more from hwb ▸ NB6.start hrg hrb hrm)
  have HW := Aside0.mk hwb
  have HA := Aside0.mk hA
  have HCG := Aside0.mk hcg
  have HCB := Aside0.mk hcb
  have HCM := Aside0.mk hcm
  have HOB := Aside0.mk hob
  have HOM := Aside0.mk hom
  have HLM := Aside0.mk hlm
  obtain ⟨q, hq, hq2⟩ := great_f x p v o f m s u g gs b
  have HQ := Aside0.mk hq
  have HQ2 := Aside0.mk hq2
  have HRG := Aside0.mk hrg
  clear hrg hrb hrm hcg hcb hcm hA hwb hq hq2 hob hom hlm
  go_enter Try.func3, Try.ntmps3
  go_wp2_with fail
  rw [HW.out]
  refine (wharfingerlaw06_alive.calls true _ rfl).mono ?_
  rintro e w1 ⟨rfl, hb1⟩
  have HS1 := Aside0.mk (HS.out.step hb1)
  clear hb1 HS HW
  have y0 : w1.cell? ⟨w.heap.size, 0, none⟩ = some (.int .u32 x) := HS1.out.blk.c0
  have y1 : w1.cell? ⟨w.heap.size, 1, none⟩ = some (.int .u32 p) := HS1.out.blk.c1
  have y2 : w1.cell? ⟨w.heap.size, 2, none⟩ = some (.int .u32 v) := HS1.out.blk.c2
  have y3 : w1.cell? ⟨w.heap.size, 3, none⟩ = some (.int .u32 o) := HS1.out.blk.c3
  have y4 : w1.cell? ⟨w.heap.size, 4, none⟩ = some (.int .u32 f) := HS1.out.blk.c4
  have y5 : w1.cell? ⟨w.heap.size, 5, none⟩ = some (.string m) := HS1.out.blk.c5
  have y6 : w1.cell? ⟨w.heap.size, 6, none⟩ = some (.int .u32 s) := HS1.out.blk.c6
  have y7 : w1.cell? ⟨w.heap.size, 7, none⟩ = some (.int .u32 u) := HS1.out.blk.c7
  have y8 : w1.cell? ⟨w.heap.size, 8, none⟩ = some (.int .u32 g) := HS1.out.blk.c8
  have y9 : w1.cell? ⟨w.heap.size, 9, none⟩ = some (.slice Ag gs.length cg) := HS1.out.blk.c9
  have y10 : w1.cell? ⟨w.heap.size, 10, none⟩ = some (.slice Ab b.length cb) := HS1.out.blk.c10
  go_wp2_with fail
  clear y0 y1 y2 y3 y4 y5 y6 y7 y8 y9 y10
  refine (wharfingerlaw06_great.calls x p v o f m s u g Ag cg gs Ab cb b q w1 HS1.out.G HCG.out HS1.out.B HCB.out HQ.out).mono ?_
  rintro e w2 ⟨rfl, hb2⟩
  have HS2 := Aside0.mk (HS1.out.step hb2)
  clear hb2 HS1
  cases q with
  | true =>
    go_wp2_with fail
    refine (wharfingerlaw06_alive.calls true _ rfl).mono ?_
    rintro e wz ⟨rfl, hbz⟩
    have HSZ := Aside0.mk (HS2.out.step hbz)
    clear hbz
    go_wp2
    go_ret
    exact ⟨rfl, HSZ.out.be⟩
  | false =>
    obtain ⟨bq, hbq⟩ : ∃ bq, decide ((more.length : Int) > 1048576) = bq := ⟨_, rfl⟩
    have HBQ := Aside0.mk hbq
    have HS3 := Aside0.mk (HS2.out.step (below_alloc (Below.refl _ _) (.cells #[.int .i64 (more.length : Int)] 3)))
    have hlm := HLM.out
    have HBE := Aside0.mk (wharfingerlaw01_Beyond.calls 3 (some ⟨w2.heap.size, 0, none⟩) 1 [(more.length : Int)] bq (w2.alloc (.cells #[.int .i64 (more.length : Int)] 3)) (lit_readsC .i64 3 w2 [(more.length : Int)] #[.int .i64 (more.length : Int)] (0, 0) rfl (by simp)) (by simp) (by rw [beyond1 1 _ (by omega) (by omega), hbq]))
    clear hbq hlm
    go_wp2_with fail
    refine HBE.out.mono ?_
    rintro e w4 ⟨rfl, ⟨nd, hw4⟩⟩
    have HS4 := Aside0.mk (HS3.out.step (hw4 ▸ pw_below_drewN (Below.refl _ _) nd))
    clear HS3 HS2 HBE hw4
    cases bq with
    | true =>
      go_wp2_with fail
      refine (wharfingerlaw06_alive.calls true _ rfl).mono ?_
      rintro e wz ⟨rfl, hbz⟩
      have HSZ := Aside0.mk (HS4.out.step hbz)
      clear hbz
      go_wp2
      go_ret
      exact ⟨rfl, HSZ.out.be⟩
    | false =>
      have y0 : w4.cell? ⟨w.heap.size, 0, none⟩ = some (.int .u32 x) := HS4.out.blk.c0
      have y1 : w4.cell? ⟨w.heap.size, 1, none⟩ = some (.int .u32 p) := HS4.out.blk.c1
      have y2 : w4.cell? ⟨w.heap.size, 2, none⟩ = some (.int .u32 v) := HS4.out.blk.c2
      have y3 : w4.cell? ⟨w.heap.size, 3, none⟩ = some (.int .u32 o) := HS4.out.blk.c3
      have y4 : w4.cell? ⟨w.heap.size, 4, none⟩ = some (.int .u32 f) := HS4.out.blk.c4
      have y5 : w4.cell? ⟨w.heap.size, 5, none⟩ = some (.string m) := HS4.out.blk.c5
      have y6 : w4.cell? ⟨w.heap.size, 6, none⟩ = some (.int .u32 s) := HS4.out.blk.c6
      have y7 : w4.cell? ⟨w.heap.size, 7, none⟩ = some (.int .u32 u) := HS4.out.blk.c7
      have y8 : w4.cell? ⟨w.heap.size, 8, none⟩ = some (.int .u32 g) := HS4.out.blk.c8
      have y9 : w4.cell? ⟨w.heap.size, 9, none⟩ = some (.slice Ag gs.length cg) := HS4.out.blk.c9
      have y10 : w4.cell? ⟨w.heap.size, 10, none⟩ = some (.slice Ab b.length cb) := HS4.out.blk.c10
      go_wp2_with fail
      clear y0 y1 y2 y3 y4 y5 y6 y7 y8 y9 y10
      rcases HA.out.cases with ⟨hc, _⟩ | ⟨hc, _⟩ | ⟨hc, hok, hlen⟩
      · refine (calls_Put.calls x p v o f m s u g Ag cg gs Ab cb b _ _ w4 HS4.out.G HCG.out HS4.out.B HCB.out hc).mono ?_
        rintro e w5 ⟨v5, rfl, ho5, hb5⟩
        obtain ⟨A5, c5, rfl, _⟩ := OB_reads ho5
        have HS5 := Aside0.mk (HS4.out.step hb5)
        clear hb5 ho5 hc
        go_wp2
        go_ret
        exact ⟨rfl, HS5.out.be⟩
      · refine (calls_Put.calls x p v o f m s u g Ag cg gs Ab cb b _ _ w4 HS4.out.G HCG.out HS4.out.B HCB.out hc).mono ?_
        rintro e w5 ⟨v5, rfl, ho5, hb5⟩
        obtain ⟨A5, c5, rfl, _⟩ := OB_reads ho5
        have HS5 := Aside0.mk (HS4.out.step hb5)
        clear hb5 ho5 hc
        go_wp2
        go_ret
        exact ⟨rfl, HS5.out.be⟩
      · obtain ⟨L, hL⟩ : ∃ L, callB x p v o f m s u g gs ++ b = L := ⟨_, rfl⟩
        obtain ⟨N, hN⟩ : ∃ N, (callB x p v o f m s u g gs).length = N := ⟨_, rfl⟩
        have hmost := callB_most hok
        rw [hL] at hc hlen
        rw [hN] at hmost
        have HLN := Aside0.mk (show L.length = N + b.length by rw [← hL, List.length_append, hN])
        have HL := Aside0.mk hL
        have HN := Aside0.mk hN
        have HMO := Aside0.mk hmost
        have HOK := Aside0.mk hok
        have HLE := Aside0.mk hlen
        refine (calls_Put.calls x p v o f m s u g Ag cg gs Ab cb b L 0 w4 HS4.out.G HCG.out HS4.out.B HCB.out hc).mono ?_
        rintro e w5 ⟨v5, rfl, ho5, hb5⟩
        obtain ⟨A5, c5, rfl, hc5, hR5⟩ := OB_reads ho5
        have HS5 := Aside0.mk (HS4.out.step hb5)
        have HO5 := Aside0.mk ho5
        have HB5 := Aside0.mk hb5
        have HC5 := Aside0.mk hc5
        have y10 : w5.cell? ⟨w.heap.size, 10, none⟩ = some (.slice Ab b.length cb) := HS5.out.blk.c10
        have hwr : wrap64 ((L.length : Int) - (b.length : Int)) = (N : Int) := by have := HLN.out; rw [wrap_in (by omega) (by omega)]; omega
        have k1 : decide ((N : Int) < 40) = false := decide_eq_false (by omega)
        have k2 : decide ((N : Int) > 500) = false := decide_eq_false (by omega)
        clear hb5 ho5 hc hL hN hmost hok hlen hc5 hR5
        go_wp2_with fail
        rw [hwr]
        clear k1 k2 y10 hwr
        go_loopw [8] (fun v8 wr => ∃ i : Nat, i ≤ N ∧ v8 = .int .i64 i ∧ Below w5.heap.size w5 wr) (fun v8 _ => N - (intOf v8).toNat)
        case atStart => exact ⟨0, Nat.zero_le _, rfl, Below.refl _ _⟩
        case round =>
          obtain ⟨i, hi, rfl, hbr⟩ := hrel
          have hmost := HMO.out
          by_cases hin : i < N
          · have hln := HLN.out
            have hic : i ≤ c5 := by have := HC5.out; omega
            have hcall := calls_Get.calls A5 c5 (L.take i) 0 0 0 0 0 ByteArray.empty 0 0 0 [] [] 4 wr (C_take i (by omega) (Kd.C_below (Kd.R_reads' HO5.out).2.2 hbr)) (by rw [List.length_take]; omega) (by rw [← HL.out]; exact getF_cut HOK.out HOB.out i (by rw [HN.out]; exact hin))
            rw [show (L.take i).length = i by rw [List.length_take]; omega] at hcall
            have HCALL := Aside0.mk hcall
            have HBR := Aside0.mk hbr
            have HIN := Aside0.mk hin
            clear hcall hbr hmost hi hln
            go_wp2_with fail
            refine HCALL.out.mono ?_
            rintro e w6 ⟨v6, v7, rfl, ho6, ho7, hb6⟩
            obtain ⟨A6, c6, rfl, _⟩ := Kd.R_reads ho6
            obtain ⟨A7, c7, rfl, _⟩ := OB_reads ho7
            have HB7 := Aside0.mk (below_then HBR.out HBR.out.size (below_then hb6 hb6.size (below_alloc (Below.refl _ _) (.cells #[.int .u32 0, .int .u32 0, .int .u32 0, .int .u32 0, .int .u32 0, .string ByteArray.empty, .int .u32 0, .int .u32 0, .int .u32 0, .slice A6 0 c6, .slice A7 0 c7] 28))))
            have h450 := HMO.out.2
            clear ho6 ho7 hb6 HCALL HBR hic
            go_wp2
            go_roundw
            case rel => exact ⟨i + 1, HIN.out, by go_num, HB7.out⟩
            case measure => simp [intOf]; omega
          · obtain rfl : i = N := by omega
            have HS6 := Aside0.mk (HS5.out.step hbr)
            have HB6 := Aside0.mk hbr
            have HG6 := Aside0.mk (calls_Get.calls A5 c5 L x p v o f m s u g gs b 0 wr (Kd.C_below (Kd.R_reads' HO5.out).2.2 hbr) HC5.out (by rw [← HL.out]; exact getF_put HOK.out HOB.out (by rw [HL.out]; exact HLE.out)))
            clear hin hi hbr hmost
            go_wp2_with fail
            refine HG6.out.mono ?_
            rintro e w7 ⟨v7, v8, rfl, ho7, ho8, hb7⟩
            obtain ⟨A7, c7, rfl, hc7, hR7⟩ := Kd.R_reads ho7
            obtain ⟨A8, c8, rfl, hc8, hR8⟩ := OB_reads ho8
            have hbk := below_alloc (Below.refl w7.heap.size w7) (.cells #[.int .u32 x, .int .u32 p, .int .u32 v, .int .u32 o, .int .u32 f, .string m, .int .u32 s, .int .u32 u, .int .u32 g, .slice A7 gs.length c7, .slice A8 b.length c8] 28)
            obtain ⟨w8, hw8⟩ : ∃ w8, w7.alloc (.cells #[.int .u32 x, .int .u32 p, .int .u32 v, .int .u32 o, .int .u32 f, .string m, .int .u32 s, .int .u32 u, .int .u32 g, .slice A7 gs.length c7, .slice A8 b.length c8] 28) = w8 := ⟨_, rfl⟩
            rw [hw8] at hbk
            have HS8 := Aside0.mk (HS6.out.step (below_then hb7 hb7.size hbk))
            have HB8 := Aside0.mk (below_then HB6.out HB6.out.size (below_then hb7 hb7.size hbk))
            have HE8 := Aside0.mk (show Call11 w8 w7.heap.size x p v o f m s u g (.slice A7 gs.length c7) (.slice A8 b.length c8) from hw8 ▸ call11_new w7 x p v o f m s u g (.slice A7 gs.length c7) (.slice A8 b.length c8))
            have HG8 := Aside0.mk (Kd.C_below hR7 hbk)
            have HD8 := Aside0.mk (Kd.C_below hR8 hbk)
            have HW8 := Aside0.mk hw8
            have HC7 := Aside0.mk hc7
            have HC8 := Aside0.mk hc8
            clear ho7 ho8 hb7 hbk hR7 hR8 hw8 hc7 hc8 HG6 HS6 HB6
            have y0 : w8.cell? ⟨w.heap.size, 0, none⟩ = some (.int .u32 x) := HS8.out.blk.c0
            have y1 : w8.cell? ⟨w.heap.size, 1, none⟩ = some (.int .u32 p) := HS8.out.blk.c1
            have y2 : w8.cell? ⟨w.heap.size, 2, none⟩ = some (.int .u32 v) := HS8.out.blk.c2
            have y3 : w8.cell? ⟨w.heap.size, 3, none⟩ = some (.int .u32 o) := HS8.out.blk.c3
            have y4 : w8.cell? ⟨w.heap.size, 4, none⟩ = some (.int .u32 f) := HS8.out.blk.c4
            have y5 : w8.cell? ⟨w.heap.size, 5, none⟩ = some (.string m) := HS8.out.blk.c5
            have y6 : w8.cell? ⟨w.heap.size, 6, none⟩ = some (.int .u32 s) := HS8.out.blk.c6
            have y7 : w8.cell? ⟨w.heap.size, 7, none⟩ = some (.int .u32 u) := HS8.out.blk.c7
            have y8 : w8.cell? ⟨w.heap.size, 8, none⟩ = some (.int .u32 g) := HS8.out.blk.c8
            have y9 : w8.cell? ⟨w.heap.size, 9, none⟩ = some (.slice Ag gs.length cg) := HS8.out.blk.c9
            have y10 : w8.cell? ⟨w.heap.size, 10, none⟩ = some (.slice Ab b.length cb) := HS8.out.blk.c10
            have d0 : w8.cell? ⟨w7.heap.size, 0, none⟩ = some (.int .u32 x) := HE8.out.c0
            have d1 : w8.cell? ⟨w7.heap.size, 1, none⟩ = some (.int .u32 p) := HE8.out.c1
            have d2 : w8.cell? ⟨w7.heap.size, 2, none⟩ = some (.int .u32 v) := HE8.out.c2
            have d3 : w8.cell? ⟨w7.heap.size, 3, none⟩ = some (.int .u32 o) := HE8.out.c3
            have d4 : w8.cell? ⟨w7.heap.size, 4, none⟩ = some (.int .u32 f) := HE8.out.c4
            have d5 : w8.cell? ⟨w7.heap.size, 5, none⟩ = some (.string m) := HE8.out.c5
            have d6 : w8.cell? ⟨w7.heap.size, 6, none⟩ = some (.int .u32 s) := HE8.out.c6
            have d7 : w8.cell? ⟨w7.heap.size, 7, none⟩ = some (.int .u32 u) := HE8.out.c7
            have d8 : w8.cell? ⟨w7.heap.size, 8, none⟩ = some (.int .u32 g) := HE8.out.c8
            have d9 : w8.cell? ⟨w7.heap.size, 9, none⟩ = some (.slice A7 gs.length c7) := HE8.out.c9
            have d10 : w8.cell? ⟨w7.heap.size, 10, none⟩ = some (.slice A8 b.length c8) := HE8.out.c10
            rw [← HW8.out] at y0 y1 y2 y3 y4 y5 y6 y7 y8 y9 y10 d0 d1 d2 d3 d4 d5 d6 d7 d8 d9 d10
            go_wp2_with fail
            rw [HW8.out]
            clear y0 y1 y2 y3 y4 y5 y6 y7 y8 y9 y10 d0 d1 d2 d3 d4 d5 d6 d7 d8 d9 d10
            have hsz := HQ2.out (by first | rfl | trivial)
            have HSC := Aside0.mk (sameCall_self 300000 x p v o f m s u g gs b (by omega) (by omega) (by omega) (by omega))
            clear hsz
            refine (wharfingerlaw01_SameCall.calls 300000 x p v o f m s u g A7 c7 gs A8 c8 b x p v o f m s u g Ag cg gs Ab cb b true w8 HG8.out HC7.out HD8.out HC8.out HS8.out.G HCG.out HS8.out.B HCB.out HSC.out).mono ?_
            rintro e w9 ⟨rfl, hb9⟩
            have HS9 := Aside0.mk (HS8.out.step hb9)
            have HB9 := Aside0.mk (below_then HB8.out HB8.out.size hb9)
            have HE9 := Aside0.mk (HE8.out.below hb9)
            have HG9 := Aside0.mk (Kd.C_below HG8.out hb9)
            have HD9 := Aside0.mk (Kd.C_below HD8.out hb9)
            clear hb9 HS8 HB8 HE8 HG8 HD8 HW8
            have hle := HLE.out
            have hmm : more.length ≤ 1048576 := by have := of_decide_eq_false HBQ.out; omega
            by_cases hbig : L.length + more.length > 65536
            · have cbg : decide (((L.length : Int) + (more.length : Int)) > 65536) = true := decide_eq_true (by omega)
              have y0 : w9.cell? ⟨w.heap.size, 0, none⟩ = some (.int .u32 x) := HS9.out.blk.c0
              have y1 : w9.cell? ⟨w.heap.size, 1, none⟩ = some (.int .u32 p) := HS9.out.blk.c1
              have y2 : w9.cell? ⟨w.heap.size, 2, none⟩ = some (.int .u32 v) := HS9.out.blk.c2
              have y3 : w9.cell? ⟨w.heap.size, 3, none⟩ = some (.int .u32 o) := HS9.out.blk.c3
              have y4 : w9.cell? ⟨w.heap.size, 4, none⟩ = some (.int .u32 f) := HS9.out.blk.c4
              have y5 : w9.cell? ⟨w.heap.size, 5, none⟩ = some (.string m) := HS9.out.blk.c5
              have y6 : w9.cell? ⟨w.heap.size, 6, none⟩ = some (.int .u32 s) := HS9.out.blk.c6
              have y7 : w9.cell? ⟨w.heap.size, 7, none⟩ = some (.int .u32 u) := HS9.out.blk.c7
              have y8 : w9.cell? ⟨w.heap.size, 8, none⟩ = some (.int .u32 g) := HS9.out.blk.c8
              have y9 : w9.cell? ⟨w.heap.size, 9, none⟩ = some (.slice Ag gs.length cg) := HS9.out.blk.c9
              have y10 : w9.cell? ⟨w.heap.size, 10, none⟩ = some (.slice Ab b.length cb) := HS9.out.blk.c10
              have d0 : w9.cell? ⟨w7.heap.size, 0, none⟩ = some (.int .u32 x) := HE9.out.c0
              have d1 : w9.cell? ⟨w7.heap.size, 1, none⟩ = some (.int .u32 p) := HE9.out.c1
              have d2 : w9.cell? ⟨w7.heap.size, 2, none⟩ = some (.int .u32 v) := HE9.out.c2
              have d3 : w9.cell? ⟨w7.heap.size, 3, none⟩ = some (.int .u32 o) := HE9.out.c3
              have d4 : w9.cell? ⟨w7.heap.size, 4, none⟩ = some (.int .u32 f) := HE9.out.c4
              have d5 : w9.cell? ⟨w7.heap.size, 5, none⟩ = some (.string m) := HE9.out.c5
              have d6 : w9.cell? ⟨w7.heap.size, 6, none⟩ = some (.int .u32 s) := HE9.out.c6
              have d7 : w9.cell? ⟨w7.heap.size, 7, none⟩ = some (.int .u32 u) := HE9.out.c7
              have d8 : w9.cell? ⟨w7.heap.size, 8, none⟩ = some (.int .u32 g) := HE9.out.c8
              have d9 : w9.cell? ⟨w7.heap.size, 9, none⟩ = some (.slice A7 gs.length c7) := HE9.out.c9
              have d10 : w9.cell? ⟨w7.heap.size, 10, none⟩ = some (.slice A8 b.length c8) := HE9.out.c10
              clear hbig
              go_wp2_with fail
              clear y0 y1 y2 y3 y4 y5 y6 y7 y8 y9 y10 d0 d1 d2 d3 d4 d5 d6 d7 d8 d9 d10
              refine (wharfingerlaw01_SameCall.calls 300000 x p v o f m s u g A7 c7 gs A8 c8 b x p v o f m s u g Ag cg gs Ab cb b true w9 HG9.out HC7.out HD9.out HC8.out HS9.out.G HCG.out HS9.out.B HCB.out HSC.out).mono ?_
              rintro e w10 ⟨rfl, hb10⟩
              have HS10 := Aside0.mk (HS9.out.step hb10)
              clear hb10
              go_wp2
              go_ret
              exact ⟨rfl, HS10.out.be⟩
            · have cbg : decide (((L.length : Int) + (more.length : Int)) > 65536) = false := decide_eq_false (by omega)
              have HSM := Aside0.mk (show L.length + more.length ≤ 65536 by omega)
              clear hbig
              obtain ⟨Y, hY⟩ : ∃ Y, Y = L ++ more := ⟨_, rfl⟩
              obtain ⟨Z, hZ⟩ : ∃ Z, Z = b ++ more := ⟨_, rfl⟩
              have HY := Aside0.mk hY
              have HZ := Aside0.mk hZ
              have HO9 := Aside0.mk (Kd.R_below HO5.out HB9.out)
              have HX9 := Aside0.mk (below_then HB5.out HB5.out.size HB9.out)
              have HL1 := Aside0.mk (show (L.length + more.length) * 1 ≤ 140737488355328 by omega)
              have HGY := Aside0.mk (show calls_Get.f Y = some (x, p, v, o, f, m, s, u, g, gs, Z, 0) by
                rw [hY, ← HL.out, List.append_assoc, hZ]
                refine getF_put HOK.out (byteOk_append HOB.out HOM.out) ?_
                rw [← List.append_assoc, HL.out, List.length_append]
                exact HSM.out)
              have HZL := Aside0.mk (show Z.length ≤ 65536 by
                have h1 := HSM.out
                have h2 := HLN.out
                rw [hZ, List.length_append]; omega)
              have HL2 := Aside0.mk (show (b.length + more.length) * 1 ≤ 140737488355328 by have h2 := HLN.out; omega)
              have HL3 := Aside0.mk (show (([] : List Int).length + b.length) * 1 ≤ 140737488355328 by have h2 := HLN.out; simp; omega)
              clear hY hZ
              go_wp2_with (at_builtin; refine Kd.R_append_row (Value.int .u8) (0 : Int) (h1 := fun _ => rfl) (w0 := w4) w4.heap.size rfl _ _ 26 5 (.int .u8 0) 1 rfl Try.underlying26 infoB rfl (by decide) _ L more Am _ cm (fun _ => True) rfl rfl (fun _ _ => trivial) HO9.out HS9.out.M HX9.out HX9.out.size HL1.out ?_; intro v10 w10 ho10 hb10 hg10 hat10; rw [← HY.out] at ho10; obtain ⟨A10, c10, rfl, hc10, hR10⟩ := OB_reads ho10)
              have HS10 := Aside0.mk (HS4.out.step hb10)
              clear hg10 hat10 ho10 hb10 HS9 HB9 HE9 HG9 HD9 HO9 HX9 HL1 hle hmm cbg
              refine (calls_Get.calls A10 c10 Y x p v o f m s u g gs Z 0 w10 hR10 hc10 HGY.out).mono ?_
              clear hR10 hc10
              rintro e w11 ⟨v11, v12, rfl, ho11, ho12, hb11⟩
              obtain ⟨A11, c11, rfl, hc11, _⟩ := Kd.R_reads ho11
              obtain ⟨A12, c12, rfl, hc12, _⟩ := OB_reads ho12
              have hbk := below_alloc (Below.refl w11.heap.size w11) (.cells #[.int .u32 x, .int .u32 p, .int .u32 v, .int .u32 o, .int .u32 f, .string m, .int .u32 s, .int .u32 u, .int .u32 g, .slice A11 gs.length c11, .slice A12 Z.length c12] 28)
              obtain ⟨w12, hw12⟩ : ∃ w12, w11.alloc (.cells #[.int .u32 x, .int .u32 p, .int .u32 v, .int .u32 o, .int .u32 f, .string m, .int .u32 s, .int .u32 u, .int .u32 g, .slice A11 gs.length c11, .slice A12 Z.length c12] 28) = w12 := ⟨_, rfl⟩
              rw [hw12] at hbk
              have HS12 := Aside0.mk (HS10.out.step (below_then hb11 hb11.size hbk))
              have HE12 := Aside0.mk (show Call11 w12 w11.heap.size x p v o f m s u g (.slice A11 gs.length c11) (.slice A12 Z.length c12) from hw12 ▸ call11_new w11 x p v o f m s u g (.slice A11 gs.length c11) (.slice A12 Z.length c12))
              have HG12 := Aside0.mk (Kd.R_below ho11 hbk)
              have HD12 := Aside0.mk (Kd.R_below ho12 hbk)
              have HW12 := Aside0.mk hw12
              have HC11 := Aside0.mk hc11
              have HC12 := Aside0.mk hc12
              have HLT := Aside0.mk (show w.heap.size < w10.heap.size from HS10.out.blk.lt)
              have HLT2 := Aside0.mk (show w10.heap.size ≤ w11.heap.size from hb11.size)
              have y10 : (w11.alloc (.cells #[.int .u32 x, .int .u32 p, .int .u32 v, .int .u32 o, .int .u32 f, .string m, .int .u32 s, .int .u32 u, .int .u32 g, .slice A11 gs.length c11, .slice A12 Z.length c12] 28)).cell? ⟨w.heap.size, 10, none⟩ = some (.slice Ab b.length cb) := by rw [hw12]; exact HS12.out.blk.c10
              clear ho11 ho12 hb11 hbk hw12 hc11 hc12 HGY HS10
              go_wp2_with (first | (at_builtin; rw [HW12.out]; refine Kd.R_append_row (Value.int .u8) (0 : Int) (h1 := fun _ => rfl) (w0 := w12) w12.heap.size rfl _ _ 26 5 (.int .u8 0) 1 rfl Try.underlying26 infoB rfl (by decide) (.slice none 0 0) [] b Ab _ cb (fun _ => True) rfl rfl (fun _ _ => trivial) (Kd.R_nil _ _ _ _ _) HS12.out.B (Below.refl _ _) (Nat.le_refl _) HL3.out ?_; intro v13 w13 ho13 hb13 hg13 hat13; rw [List.nil_append] at ho13; obtain ⟨A13, c13, rfl, hc13, hR13⟩ := OB_reads ho13; clear hg13 hat13 hR13 hc13; have HO13 := Aside0.mk ho13; have HB13 := Aside0.mk hb13; clear ho13 hb13) | (at_builtin; refine Kd.R_append_row (Value.int .u8) (0 : Int) (h1 := fun _ => rfl) (w0 := w12) w12.heap.size rfl _ _ 26 5 (.int .u8 0) 1 rfl Try.underlying26 infoB rfl (by decide) _ b more Am _ cm (fun _ => True) rfl rfl (fun _ _ => trivial) HO13.out (Kd.C_below HS12.out.M HB13.out) HB13.out HB13.out.size HL2.out ?_; intro v14 w14 ho14 hb14 hg14 hat14; rw [← HZ.out] at ho14; obtain ⟨A14, c14, rfl, hc14, hR14⟩ := OB_reads ho14; clear hg14 hat14 hR14; have HO14 := Aside0.mk ho14; have HB14 := Aside0.mk hb14; have HC14 := Aside0.mk hc14; clear ho14 hb14 hc14; have HS14 := Aside0.mk (HS12.out.step HB14.out); have y10 := HS14.out.blk.c10; have z10 := HS14.out.blk.fz 10; have HE15 := Aside0.mk (show Call11 (w14.setCell ⟨w.heap.size, 10, none⟩ (.slice A14 Z.length c14)) w11.heap.size x p v o f m s u g (.slice A11 gs.length c11) (.slice A12 Z.length c12) from (Below.heap_setCell _ _ _ _ (by show w11.heap.size ≠ w.heap.size; have := HLT.out; have := HLT2.out; omega)).trans (HE12.out.below HB14.out)); have HF15 := Aside0.mk (show Call11 (w14.setCell ⟨w.heap.size, 10, none⟩ (.slice A14 Z.length c14)) w.heap.size x p v o f m s u g (.slice Ag gs.length cg) (.slice A14 Z.length c14) from (show Blk11 w14 w.heap.size _ from HS14.out.blk).set 10 (.slice A14 Z.length c14)); obtain ⟨e0, e1, e2, e3, e4, e5, e6, e7, e8, e9, e10⟩ := HE15.out.all; obtain ⟨f0, f1, f2, f3, f4, f5, f6, f7, f8, f9, f10⟩ := HF15.out.all))
              clear e0 e1 e2 e3 e4 e5 e6 e7 e8 e9 e10 f0 f1 f2 f3 f4 f5 f6 f7 f8 f9 f10 y10 z10
              have HB15 := Aside0.mk (show Below w.heap.size w (w14.setCell ⟨w.heap.size, 10, none⟩ (.slice A14 Z.length c14)) from HS14.out.be.setCell (p := ⟨w.heap.size, 10, none⟩) (Nat.le_refl _) _)
              have hne : ∀ k, w10.heap.size ≤ k → (w14.setCell ⟨w.heap.size, 10, none⟩ (.slice A14 Z.length c14)).heap[k]? = w14.heap[k]? := fun k hk => Below.heap_setCell _ _ _ _ (by show k ≠ w.heap.size; have := HLT.out; omega)
              have r1 := (Kd.R_reads' (R_moved (w1 := (w14.setCell ⟨w.heap.size, 10, none⟩ (.slice A14 Z.length c14))) (base' := 0) (Kd.R_below HG12.out HB14.out) (fun k hk _ => hne k hk) (Nat.zero_le _))).2.2
              have r2 := (Kd.R_reads' (R_moved (w1 := (w14.setCell ⟨w.heap.size, 10, none⟩ (.slice A14 Z.length c14))) (base' := 0) (Kd.R_below HD12.out HB14.out) (fun k hk _ => hne k hk) (Nat.zero_le _))).2.2
              have r3 := Kd.C_below HRG.out HB15.out
              have r4 := (Kd.R_reads' (R_moved (w1 := (w14.setCell ⟨w.heap.size, 10, none⟩ (.slice A14 Z.length c14))) (base' := 0) HO14.out (fun k hk _ => hne k (by have h1 := HS12.out; have h2 := HLT2.out; have h3 := HE12.out.lt; omega)) (Nat.zero_le _))).2.2
              have hsz := HQ2.out (by first | rfl | trivial)
              have hzl := HZL.out
              refine (wharfingerlaw01_SameCall.calls 300000 x p v o f m s u g A11 c11 gs A12 c12 Z x p v o f m s u g Ag cg gs A14 c14 Z true _ r1 HC11.out r2 HC12.out r3 HCG.out r4 HC14.out (sameCall_self 300000 x p v o f m s u g gs Z (by omega) (by omega) (by omega) (by omega))).mono ?_
              rintro e w16 ⟨rfl, hb16⟩
              have HB16 := Aside0.mk (below_then HB15.out HB15.out.size hb16)
              clear hb16 r1 r2 r3 r4 hne hsz hzl
              go_wp2
              go_ret
              exact ⟨rfl, HB16.out⟩
end Go.Proofs.Ytoalknneifpehaa.Hand
