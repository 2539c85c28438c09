import Derived.Test.YtoalknneifpehaaB06
namespace Go.Proofs.Ytoalknneifpehaa.Hand
open Go.RowKit Go.Proofs.Ytoalknneifpehaa.GB Go.Proofs.Ytoalknneifpehaa.GC Go.Proofs.Ytoalknneifpehaa.G6S Go.Proofs.YtoalknneifpehaaW.PrintWords Go.Proofs.YtoalknneifpehaaW.PrintLast Go.Proofs.YtoalknneifpehaaW.PrintMore
set_option linter.unusedVariables false
set_option linter.unusedSimpArgs false

/-- Where the fixed numbers stand. -/
def fixAt (d : Int) : Nat := if d = 0 then 4 else if d = 1 then 8 else 24
/-- Is it another one than the fixed one? -/
def fixNo (d n : Int) : Prop := (d = 0 ∧ n ≠ 0) ∨ (d = 1 ∧ n ≠ 2) ∨ (d = 2 ∧ 1 < n)
theorem beL4_take (x : Int) (l : List Int) : (beL x 4 ++ l).take 4 = beL x 4 := by
  rw [List.take_append_of_le_length (by rw [beL_length]; omega), List.take_of_length_le (by rw [beL_length]; omega)]
theorem numsL_take (ns ms l : List Int) : (numsL (ns ++ ms) ++ l).take (4 * ns.length) = numsL ns := by
  have h : numsL (ns ++ ms) = numsL ns ++ numsL ms := by
    induction ns with
    | nil => rfl
    | cons a rest ih => rw [List.cons_append, numsL, ih, numsL, List.append_assoc]
  rw [h, List.append_assoc, List.take_append_of_le_length (by rw [numsL_length]; omega), List.take_of_length_le (by rw [numsL_length]; omega)]
theorem fixed_get {x p v o f : Int} {m : ByteArray} {s u g : Int} {gs b : List Int} (h : CallOk x p v o f m s u g gs) (d n : Int) (hn : R32 n) (hd : fixNo d n) (more : List Int) (hm : more.length ≤ 60000) (hom : byteOk more = true) :
    calls_Get.f ((callB x p v o f m s u g gs ++ b).take (fixAt d) ++ beL n 4 ++ more) = some (0, 0, 0, 0, 0, ByteArray.empty, 0, 0, 0, [], [], 5) := by
  have hB : callB x p v o f m s u g gs ++ b = numsL [x, 0, 2, p, v, o, f] ++ (putL (whoL f m s u g gs) ++ (beL 0 4 ++ (putL [] ++ b))) := callB_app _ _ _ _ _ _ _ _ _ _ _
  have key : ∀ ns : List Int, (callB x p v o f m s u g gs ++ b).take (fixAt d) = numsL ns → ns.length ≤ 6 → callH (numsL ns ++ (beL n 4 ++ more)) = callZ 5 → calls_Get.f ((callB x p v o f m s u g gs ++ b).take (fixAt d) ++ beL n 4 ++ more) = some (0, 0, 0, 0, 0, ByteArray.empty, 0, 0, 0, [], [], 5) := by
    intro ns h1 h2 h3
    rw [h1, List.append_assoc]
    unfold calls_Get.f callG
    rw [if_pos (byteOk_append (byteOk_nums ns) (byteOk_append (byteOk_be4 n) hom)), if_neg (by simp only [List.length_append, numsL_length, beL_length]; omega), h3]
    rfl
  have z : R32 0 := ⟨by omega, by omega⟩
  have t2 : R32 2 := ⟨by omega, by omega⟩
  rcases hd with ⟨rfl, hne⟩ | ⟨rfl, hne⟩ | ⟨rfl, hne⟩
  · refine key [x] ?_ (by simp) (callH_err (by omega) (hdS_other [none] [x] (some 0) [some 2, none, none, none, none] n more ⟨h.hx, rfl, trivial⟩ hn (by unfold askG; dsimp only; rw [if_neg hne])))
    rw [hB]; exact numsL_take [x] [0, 2, p, v, o, f] _
  · refine key [x, 0] ?_ (by simp) (callH_err (by omega) (hdS_other [none, some 0] [x, 0] (some 2) [none, none, none, none] n more ⟨h.hx, rfl, z, rfl, trivial⟩ hn (by unfold askG; dsimp only; rw [if_neg hne])))
    rw [hB]; exact numsL_take [x, 0] [2, p, v, o, f] _
  · refine key [x, 0, 2, p, v, o] ?_ (by simp) ?_
    · rw [hB]; exact numsL_take [x, 0, 2, p, v, o] [f] _
    · have h7 : numsL [x, 0, 2, p, v, o] ++ (beL n 4 ++ more) = numsL [x, 0, 2, p, v, o, n] ++ more := by
        rw [show numsL [x, 0, 2, p, v, o] = beL x 4 ++ (beL 0 4 ++ (beL 2 4 ++ (beL p 4 ++ (beL v 4 ++ (beL o 4 ++ []))))) from rfl, show numsL [x, 0, 2, p, v, o, n] = beL x 4 ++ (beL 0 4 ++ (beL 2 4 ++ (beL p 4 ++ (beL v 4 ++ (beL o 4 ++ (beL n 4 ++ [])))))) from rfl]
        simp only [List.append_assoc, List.nil_append, List.append_nil]
      rw [h7]
      refine callH_fla ?_ (by omega)
      rw [hdS_be _ _ _ (fits_call h.hx h.hp h.hv h.ho hn)]
      dsimp only
      rw [show rd [x, 0, 2, p, v, o, n] 6 = n from rfl]
      unfold flaG
      rw [if_pos rfl, if_pos hne]
theorem tmod3 (x : Int) (h : 0 ≤ x ∧ x < 256) : x.tmod 3 = 0 ∨ x.tmod 3 = 1 ∨ x.tmod 3 = 2 := by
  have := Int.tmod_eq_emod_of_nonneg (b := 3) h.1
  omega
set_option maxHeartbeats 8000000 in
set_option maxRecDepth 100000 in
theorem callsFixed_calls (x p v o f : Int) (m : ByteArray) (s u g : Int) (Ag : Option Addr) (cg : Nat) (gs : List Int) (Ab : Option Addr) (cb : Nat) (b : List Int) (Am : Option Addr) (more : List Int) (cm : Nat) (wh nn : Int) (w : World) (hA : CallA x p v o f m s u g gs b) (hrg : Kd.C (Kd.int .u32) w Ag gs.length gs) (hcg : gs.length ≤ cg) (hrb : Kd.C (Kd.int .u8) w Ab b.length b) (hcb : b.length ≤ cb) (hrm : Kd.C (Kd.int .u8) w Am more.length more) (hcm : more.length ≤ cm) (hob : byteOk b = true) (hom : byteOk more = true) (hlm : more.length ≤ 140737488351232) (hwh : 0 ≤ wh ∧ wh < 256) (hnn : R32 nn) :
    Calls Try.prog 6 #[.agg #[.int .u32 x, .int .u32 p, .int .u32 v, .int .u32 o, .int .u32 f, .string m, .int .u32 s, .int .u32 u, .int .u32 g, .slice Ag gs.length cg, .slice Ab b.length cb], .agg #[.int .u8 wh, .int .u32 nn, .slice Am more.length cm]] w fun e w' => e = .returned (.bool true) ∧ Below w.heap.size w w' := by
  obtain ⟨wa, hwa⟩ : ∃ wa, w.alloc (.cells #[.int .u32 x, .int .u32 p, .int .u32 v, .int .u32 o, .int .u32 f, .string m, .int .u32 s, .int .u32 u, .int .u32 g, .slice Ag gs.length cg, .slice Ab b.length cb] 28) = wa := ⟨_, rfl⟩
  obtain ⟨wb, hwb⟩ : ∃ wb, (w.alloc (.cells #[.int .u32 x, .int .u32 p, .int .u32 v, .int .u32 o, .int .u32 f, .string m, .int .u32 s, .int .u32 u, .int .u32 g, .slice Ag gs.length cg, .slice Ab b.length cb] 28)).alloc (.cells #[.int .u8 wh, .int .u32 nn, .slice Am more.length cm] 45) = wb := ⟨_, rfl⟩
  have HS := Aside0.mk (show NB6 w wb x p v o f m s u g Ag cg gs Ab cb b Am more from hwb ▸ (NB6.start hrg hrb hrm).step (below_alloc (Below.refl _ _) _))
  have HW := Aside0.mk hwb
  have HA := Aside0.mk hA
  have HCG := Aside0.mk hcg
  have HCB := Aside0.mk hcb
  have HCM := Aside0.mk hcm
  have HOB := Aside0.mk hob
  have HOM := Aside0.mk hom
  have HLM := Aside0.mk hlm
  have HWH := Aside0.mk hwh
  have HNN := Aside0.mk hnn
  obtain ⟨q, hq, hq2⟩ := great_f x p v o f m s u g gs b
  have HQ := Aside0.mk hq
  have HQ2 := Aside0.mk hq2
  clear hrg hrb hrm hcg hcb hcm hA hwb hwa hq hq2 hob hom hlm hwh hnn
  go_enter Try.func6, Try.ntmps6
  go_wp2_with fail
  rw [HW.out]
  refine (wharfingerlaw06_alive.calls true _ rfl).mono ?_
  rintro e w1 ⟨rfl, hb1⟩
  have HS1 := Aside0.mk (HS.out.step hb1)
  clear hb1 HS HW
  have y0 : w1.cell? ⟨w.heap.size, 0, none⟩ = some (.int .u32 x) := HS1.out.blk.c0
  have y1 : w1.cell? ⟨w.heap.size, 1, none⟩ = some (.int .u32 p) := HS1.out.blk.c1
  have y2 : w1.cell? ⟨w.heap.size, 2, none⟩ = some (.int .u32 v) := HS1.out.blk.c2
  have y3 : w1.cell? ⟨w.heap.size, 3, none⟩ = some (.int .u32 o) := HS1.out.blk.c3
  have y4 : w1.cell? ⟨w.heap.size, 4, none⟩ = some (.int .u32 f) := HS1.out.blk.c4
  have y5 : w1.cell? ⟨w.heap.size, 5, none⟩ = some (.string m) := HS1.out.blk.c5
  have y6 : w1.cell? ⟨w.heap.size, 6, none⟩ = some (.int .u32 s) := HS1.out.blk.c6
  have y7 : w1.cell? ⟨w.heap.size, 7, none⟩ = some (.int .u32 u) := HS1.out.blk.c7
  have y8 : w1.cell? ⟨w.heap.size, 8, none⟩ = some (.int .u32 g) := HS1.out.blk.c8
  have y9 : w1.cell? ⟨w.heap.size, 9, none⟩ = some (.slice Ag gs.length cg) := HS1.out.blk.c9
  have y10 : w1.cell? ⟨w.heap.size, 10, none⟩ = some (.slice Ab b.length cb) := HS1.out.blk.c10
  go_wp2_with fail
  clear y0 y1 y2 y3 y4 y5 y6 y7 y8 y9 y10
  refine (wharfingerlaw06_great.calls x p v o f m s u g Ag cg gs Ab cb b q w1 HS1.out.G HCG.out HS1.out.B HCB.out HQ.out).mono ?_
  rintro e w2 ⟨rfl, hb2⟩
  have HS2 := Aside0.mk (HS1.out.step hb2)
  clear hb2 HS1
  cases q with
  | true =>
    go_wp2_with fail
    refine (wharfingerlaw06_alive.calls true _ rfl).mono ?_
    rintro e wz ⟨rfl, hbz⟩
    have HSZ := Aside0.mk (HS2.out.step hbz)
    clear hbz
    go_wp2
    go_ret
    exact ⟨rfl, HSZ.out.be⟩
  | false =>
    obtain ⟨bq, hbq⟩ : ∃ bq, decide ((more.length : Int) > 1048576) = bq := ⟨_, rfl⟩
    have HBQ := Aside0.mk hbq
    have HS3 := Aside0.mk (HS2.out.step (below_alloc (Below.refl _ _) (.cells #[.int .i64 (more.length : Int)] 3)))
    have hlm := HLM.out
    have HBE := Aside0.mk (wharfingerlaw01_Beyond.calls 3 (some ⟨w2.heap.size, 0, none⟩) 1 [(more.length : Int)] bq (w2.alloc (.cells #[.int .i64 (more.length : Int)] 3)) (lit_readsC .i64 3 w2 [(more.length : Int)] #[.int .i64 (more.length : Int)] (0, 0) rfl (by simp)) (by simp) (by rw [beyond1 1 _ (by omega) (by omega), hbq]))
    clear hbq hlm
    go_wp2_with fail
    refine HBE.out.mono ?_
    rintro e w4 ⟨rfl, ⟨nd, hw4⟩⟩
    have HS4 := Aside0.mk (HS3.out.step (hw4 ▸ pw_below_drewN (Below.refl _ _) nd))
    clear HS3 HS2 HBE hw4
    cases bq with
    | true =>
      go_wp2_with fail
      refine (wharfingerlaw06_alive.calls true _ rfl).mono ?_
      rintro e wz ⟨rfl, hbz⟩
      have HSZ := Aside0.mk (HS4.out.step hbz)
      clear hbz
      go_wp2
      go_ret
      exact ⟨rfl, HSZ.out.be⟩
    | false =>
      by_cases h6 : (more.length : Int) > 60000
      · have c6 : decide ((more.length : Int) > 60000) = true := decide_eq_true h6
        clear h6
        go_wp2_with fail
        refine (wharfingerlaw06_alive.calls true _ rfl).mono ?_
        rintro e wz ⟨rfl, hbz⟩
        have HSZ := Aside0.mk (HS4.out.step hbz)
        clear hbz
        go_wp2
        go_ret
        exact ⟨rfl, HSZ.out.be⟩
      · have c6 : decide ((more.length : Int) > 60000) = false := decide_eq_false h6
        have H6 := Aside0.mk h6
        clear h6
        have y0 : w4.cell? ⟨w.heap.size, 0, none⟩ = some (.int .u32 x) := HS4.out.blk.c0
        have y1 : w4.cell? ⟨w.heap.size, 1, none⟩ = some (.int .u32 p) := HS4.out.blk.c1
        have y2 : w4.cell? ⟨w.heap.size, 2, none⟩ = some (.int .u32 v) := HS4.out.blk.c2
        have y3 : w4.cell? ⟨w.heap.size, 3, none⟩ = some (.int .u32 o) := HS4.out.blk.c3
        have y4 : w4.cell? ⟨w.heap.size, 4, none⟩ = some (.int .u32 f) := HS4.out.blk.c4
        have y5 : w4.cell? ⟨w.heap.size, 5, none⟩ = some (.string m) := HS4.out.blk.c5
        have y6 : w4.cell? ⟨w.heap.size, 6, none⟩ = some (.int .u32 s) := HS4.out.blk.c6
        have y7 : w4.cell? ⟨w.heap.size, 7, none⟩ = some (.int .u32 u) := HS4.out.blk.c7
        have y8 : w4.cell? ⟨w.heap.size, 8, none⟩ = some (.int .u32 g) := HS4.out.blk.c8
        have y9 : w4.cell? ⟨w.heap.size, 9, none⟩ = some (.slice Ag gs.length cg) := HS4.out.blk.c9
        have y10 : w4.cell? ⟨w.heap.size, 10, none⟩ = some (.slice Ab b.length cb) := HS4.out.blk.c10
        go_wp2_with fail
        clear y0 y1 y2 y3 y4 y5 y6 y7 y8 y9 y10
        obtain ⟨r1, r2, hr, hr2⟩ : ∃ r1 r2, calls_Put.f x p v o f m s u g gs b = some (r1, r2) ∧ (r2 ≠ 0 ∨ (r2 = 0 ∧ CallOk x p v o f m s u g gs ∧ r1 = callB x p v o f m s u g gs ++ b)) := by
          rcases HA.out.cases with ⟨hc, _⟩ | ⟨hc, _⟩ | ⟨hc, hok, _⟩
          · exact ⟨_, _, hc, .inl (by omega)⟩
          · exact ⟨_, _, hc, .inl (by omega)⟩
          · exact ⟨_, _, hc, .inr ⟨rfl, hok, rfl⟩⟩
        refine (calls_Put.calls x p v o f m s u g Ag cg gs Ab cb b r1 r2 w4 HS4.out.G HCG.out HS4.out.B HCB.out hr).mono ?_
        rintro e w5 ⟨v5, rfl, ho5, hb5⟩
        obtain ⟨A5, c5, rfl, hc5, hR5⟩ := OB_reads ho5
        have HS5 := Aside0.mk (HS4.out.step hb5)
        rcases hr2 with hz | ⟨rfl, hok, hr1⟩
        · have q1 : (r2 != 0) = true := bne_iff_ne.mpr hz
          clear hb5 ho5 hc5 hR5 hz hr
          go_wp2
          go_ret
          exact ⟨rfl, HS5.out.be⟩
        · have HLT := Aside0.mk (show 40 ≤ r1.length by rw [hr1, List.length_append]; have := callB_most hok; omega)
          have HR1 := Aside0.mk hr1
          have HOK := Aside0.mk hok
          have HR5 := Aside0.mk hR5
          have HC5 := Aside0.mk hc5
          obtain ⟨d, hd⟩ : ∃ d, wh.tmod 3 = d := ⟨_, rfl⟩
          have hd3 := tmod3 wh HWH.out
          rw [hd] at hd3
          clear hb5 ho5 hc5 hR5 hr hr1 hok
          have hlen : ¬ (r1.length < 28) := by have := HLT.out; omega
          rcases hd3 with rfl | rfl | rfl
          · by_cases hbad : nn = 0
            · have HBAD := Aside0.mk hbad
              subst hbad
              go_wp2
              go_ret
              exact ⟨rfl, by first | exact HS5.out.be | exact (HS5.out.step (below_alloc (Below.refl _ _) _)).be⟩
            · have HFN := Aside0.mk (show fixNo 0 nn from (Or.inl ⟨rfl, hbad⟩))
              have cbad : (nn == 0) = false := beq_eq_false_iff_ne.mpr hbad
              have h24 : 4 ≤ c5 := by have := HLT.out; have := HC5.out; omega
              obtain ⟨T6, hT6⟩ : ∃ T, T = r1.take 4 := ⟨_, rfl⟩
              obtain ⟨T8, hT8⟩ : ∃ T, T = T6 ++ beL nn 4 := ⟨_, rfl⟩
              obtain ⟨T9, hT9⟩ : ∃ T, T = T8 ++ more := ⟨_, rfl⟩
              have hl6 : T6.length = 4 := by rw [hT6, List.length_take]; have := HLT.out; omega
              have HT8 := Aside0.mk hT8
              have HT9 := Aside0.mk hT9
              have h60 := H6.out
              have HG := Aside0.mk (show calls_Get.f T9 = some (0, 0, 0, 0, 0, ByteArray.empty, 0, 0, 0, [], [], 5) by
                rw [hT9, hT8, hT6, HR1.out]
                exact fixed_get HOK.out 0 nn HNN.out HFN.out more (by omega) HOM.out)
              have HL1 := Aside0.mk (show (([] : List Int).length + 4) * 1 ≤ 140737488355328 by decide)
              have HL2 := Aside0.mk (show (T6.length + (beL nn 4).length) * 1 ≤ 140737488355328 by rw [hl6, beL_length]; omega)
              have HL3 := Aside0.mk (show (T8.length + more.length) * 1 ≤ 140737488355328 by rw [hT8, List.length_append, hl6, beL_length]; omega)
              have HL6 := Aside0.mk hl6
              have hb5a := below_alloc (Below.refl w5.heap.size w5) (.cells #[.int .i64 4, .int .i64 8, .int .i64 24] 3)
              have HB5 := Aside0.mk hb5a
              have HR6 := Aside0.mk (show Kd.C (Kd.int .u8) (w5.alloc (.cells #[.int .i64 4, .int .i64 8, .int .i64 24] 3)) A5 4 T6 by
                have h := C_take 4 (by have := HLT.out; omega) (Kd.C_below HR5.out hb5a)
                rw [← hT6, hl6] at h
                exact h)
              clear hbad hT6 hT8 hT9 hl6 h60 hb5a
              go_wp2_with (at_builtin; refine Kd.R_append_row (Value.int .u8) (0 : Int) (h1 := fun _ => rfl) (w0 := w5) w5.heap.size rfl _ _ 26 5 (.int .u8 0) 1 rfl Try.underlying26 infoB rfl (by decide) (.slice none 0 0) [] T6 A5 _ c5 (fun _ => True) rfl rfl (fun _ _ => trivial) (Kd.R_nil _ _ _ _ _) HR6.out HB5.out HB5.out.size HL1.out ?_; intro v6 w6 ho6 hb6 hg6 hat6; rw [List.nil_append] at ho6; obtain ⟨A6, c6, rfl, _⟩ := OB_reads ho6; clear hg6 hat6)
              refine (words_Put.calls nn (beL nn 4) w6 rfl).mono ?_
              rintro e w7 ⟨v7, rfl, ho7, hb7⟩
              obtain ⟨A7, c7, rfl, hc7, hR7⟩ := OB_reads ho7
              have HB7 := Aside0.mk (below_then hb6 hb6.size hb7)
              have HO7 := Aside0.mk (Kd.R_below ho6 hb7)
              have HR7 := Aside0.mk hR7
              clear ho6 hb6 ho7 hb7 hc7 hR7
              go_wp2_with (first | (at_builtin; refine Kd.R_append_row (Value.int .u8) (0 : Int) (h1 := fun _ => rfl) (w0 := w5) w5.heap.size rfl _ _ 26 5 (.int .u8 0) 1 rfl Try.underlying26 infoB rfl (by decide) _ T6 (beL nn 4) A7 _ c7 (fun _ => True) rfl rfl (fun _ _ => trivial) HO7.out HR7.out HB7.out HB7.out.size HL2.out ?_; intro v8 w8 ho8 hb8 hg8 hat8; rw [← HT8.out] at ho8; obtain ⟨A8, c8, rfl, _⟩ := OB_reads ho8; clear hg8 hat8; have HO8 := Aside0.mk ho8; have HB8 := Aside0.mk hb8; have HM8 := Aside0.mk (Kd.C_below HS5.out.M hb8); clear ho8 hb8) | (at_builtin; refine Kd.R_append_row (Value.int .u8) (0 : Int) (h1 := fun _ => rfl) (w0 := w5) w5.heap.size rfl _ _ 26 5 (.int .u8 0) 1 rfl Try.underlying26 infoB rfl (by decide) _ T8 more Am _ cm (fun _ => True) rfl rfl (fun _ _ => trivial) HO8.out HM8.out HB8.out HB8.out.size HL3.out ?_; intro v9 w9 ho9 hb9 hg9 hat9; rw [← HT9.out] at ho9; obtain ⟨A9, c9, rfl, hc9, hR9⟩ := OB_reads ho9; clear hg9 hat9))
              refine (calls_Get.calls A9 c9 T9 0 0 0 0 0 ByteArray.empty 0 0 0 [] [] 5 w9 hR9 hc9 HG.out).mono ?_
              rintro e w10 ⟨v10, v11, rfl, ho10, ho11, hb10⟩
              obtain ⟨A10, c10, rfl, _⟩ := Kd.R_reads ho10
              obtain ⟨A11, c11, rfl, _⟩ := OB_reads ho11
              have HS10 := Aside0.mk ((HS5.out.step hb9).step (below_then hb10 hb10.size (below_alloc (Below.refl _ _) (.cells #[.int .u32 0, .int .u32 0, .int .u32 0, .int .u32 0, .int .u32 0, .string ByteArray.empty, .int .u32 0, .int .u32 0, .int .u32 0, .slice A10 0 c10, .slice A11 0 c11] 28))))
              clear ho9 hb9 hc9 hR9 ho10 ho11 hb10
              go_wp2
              go_ret
              exact ⟨rfl, HS10.out.be⟩
          · by_cases hbad : nn = 2
            · have HBAD := Aside0.mk hbad
              subst hbad
              go_wp2
              go_ret
              exact ⟨rfl, by first | exact HS5.out.be | exact (HS5.out.step (below_alloc (Below.refl _ _) _)).be⟩
            · have HFN := Aside0.mk (show fixNo 1 nn from (Or.inr (Or.inl ⟨rfl, hbad⟩)))
              have cbad : (nn == 2) = false := beq_eq_false_iff_ne.mpr hbad
              have h24 : 8 ≤ c5 := by have := HLT.out; have := HC5.out; omega
              obtain ⟨T6, hT6⟩ : ∃ T, T = r1.take 8 := ⟨_, rfl⟩
              obtain ⟨T8, hT8⟩ : ∃ T, T = T6 ++ beL nn 4 := ⟨_, rfl⟩
              obtain ⟨T9, hT9⟩ : ∃ T, T = T8 ++ more := ⟨_, rfl⟩
              have hl6 : T6.length = 8 := by rw [hT6, List.length_take]; have := HLT.out; omega
              have HT8 := Aside0.mk hT8
              have HT9 := Aside0.mk hT9
              have h60 := H6.out
              have HG := Aside0.mk (show calls_Get.f T9 = some (0, 0, 0, 0, 0, ByteArray.empty, 0, 0, 0, [], [], 5) by
                rw [hT9, hT8, hT6, HR1.out]
                exact fixed_get HOK.out 1 nn HNN.out HFN.out more (by omega) HOM.out)
              have HL1 := Aside0.mk (show (([] : List Int).length + 8) * 1 ≤ 140737488355328 by decide)
              have HL2 := Aside0.mk (show (T6.length + (beL nn 4).length) * 1 ≤ 140737488355328 by rw [hl6, beL_length]; omega)
              have HL3 := Aside0.mk (show (T8.length + more.length) * 1 ≤ 140737488355328 by rw [hT8, List.length_append, hl6, beL_length]; omega)
              have HL6 := Aside0.mk hl6
              have hb5a := below_alloc (Below.refl w5.heap.size w5) (.cells #[.int .i64 4, .int .i64 8, .int .i64 24] 3)
              have HB5 := Aside0.mk hb5a
              have HR6 := Aside0.mk (show Kd.C (Kd.int .u8) (w5.alloc (.cells #[.int .i64 4, .int .i64 8, .int .i64 24] 3)) A5 8 T6 by
                have h := C_take 8 (by have := HLT.out; omega) (Kd.C_below HR5.out hb5a)
                rw [← hT6, hl6] at h
                exact h)
              clear hbad hT6 hT8 hT9 hl6 h60 hb5a
              go_wp2_with (at_builtin; refine Kd.R_append_row (Value.int .u8) (0 : Int) (h1 := fun _ => rfl) (w0 := w5) w5.heap.size rfl _ _ 26 5 (.int .u8 0) 1 rfl Try.underlying26 infoB rfl (by decide) (.slice none 0 0) [] T6 A5 _ c5 (fun _ => True) rfl rfl (fun _ _ => trivial) (Kd.R_nil _ _ _ _ _) HR6.out HB5.out HB5.out.size HL1.out ?_; intro v6 w6 ho6 hb6 hg6 hat6; rw [List.nil_append] at ho6; obtain ⟨A6, c6, rfl, _⟩ := OB_reads ho6; clear hg6 hat6)
              refine (words_Put.calls nn (beL nn 4) w6 rfl).mono ?_
              rintro e w7 ⟨v7, rfl, ho7, hb7⟩
              obtain ⟨A7, c7, rfl, hc7, hR7⟩ := OB_reads ho7
              have HB7 := Aside0.mk (below_then hb6 hb6.size hb7)
              have HO7 := Aside0.mk (Kd.R_below ho6 hb7)
              have HR7 := Aside0.mk hR7
              clear ho6 hb6 ho7 hb7 hc7 hR7
              go_wp2_with (first | (at_builtin; refine Kd.R_append_row (Value.int .u8) (0 : Int) (h1 := fun _ => rfl) (w0 := w5) w5.heap.size rfl _ _ 26 5 (.int .u8 0) 1 rfl Try.underlying26 infoB rfl (by decide) _ T6 (beL nn 4) A7 _ c7 (fun _ => True) rfl rfl (fun _ _ => trivial) HO7.out HR7.out HB7.out HB7.out.size HL2.out ?_; intro v8 w8 ho8 hb8 hg8 hat8; rw [← HT8.out] at ho8; obtain ⟨A8, c8, rfl, _⟩ := OB_reads ho8; clear hg8 hat8; have HO8 := Aside0.mk ho8; have HB8 := Aside0.mk hb8; have HM8 := Aside0.mk (Kd.C_below HS5.out.M hb8); clear ho8 hb8) | (at_builtin; refine Kd.R_append_row (Value.int .u8) (0 : Int) (h1 := fun _ => rfl) (w0 := w5) w5.heap.size rfl _ _ 26 5 (.int .u8 0) 1 rfl Try.underlying26 infoB rfl (by decide) _ T8 more Am _ cm (fun _ => True) rfl rfl (fun _ _ => trivial) HO8.out HM8.out HB8.out HB8.out.size HL3.out ?_; intro v9 w9 ho9 hb9 hg9 hat9; rw [← HT9.out] at ho9; obtain ⟨A9, c9, rfl, hc9, hR9⟩ := OB_reads ho9; clear hg9 hat9))
              refine (calls_Get.calls A9 c9 T9 0 0 0 0 0 ByteArray.empty 0 0 0 [] [] 5 w9 hR9 hc9 HG.out).mono ?_
              rintro e w10 ⟨v10, v11, rfl, ho10, ho11, hb10⟩
              obtain ⟨A10, c10, rfl, _⟩ := Kd.R_reads ho10
              obtain ⟨A11, c11, rfl, _⟩ := OB_reads ho11
              have HS10 := Aside0.mk ((HS5.out.step hb9).step (below_then hb10 hb10.size (below_alloc (Below.refl _ _) (.cells #[.int .u32 0, .int .u32 0, .int .u32 0, .int .u32 0, .int .u32 0, .string ByteArray.empty, .int .u32 0, .int .u32 0, .int .u32 0, .slice A10 0 c10, .slice A11 0 c11] 28))))
              clear ho9 hb9 hc9 hR9 ho10 ho11 hb10
              go_wp2
              go_ret
              exact ⟨rfl, HS10.out.be⟩
          · by_cases hbad : nn ≤ 1
            · have HBAD := Aside0.mk hbad
              have cbad : decide (nn ≤ 1) = true := decide_eq_true hbad
              clear hbad
              go_wp2
              go_ret
              exact ⟨rfl, by first | exact HS5.out.be | exact (HS5.out.step (below_alloc (Below.refl _ _) _)).be⟩
            · have HFN := Aside0.mk (show fixNo 2 nn from (Or.inr (Or.inr ⟨rfl, by omega⟩)))
              have cbad : decide (nn ≤ 1) = false := decide_eq_false hbad
              have h24 : 24 ≤ c5 := by have := HLT.out; have := HC5.out; omega
              obtain ⟨T6, hT6⟩ : ∃ T, T = r1.take 24 := ⟨_, rfl⟩
              obtain ⟨T8, hT8⟩ : ∃ T, T = T6 ++ beL nn 4 := ⟨_, rfl⟩
              obtain ⟨T9, hT9⟩ : ∃ T, T = T8 ++ more := ⟨_, rfl⟩
              have hl6 : T6.length = 24 := by rw [hT6, List.length_take]; have := HLT.out; omega
              have HT8 := Aside0.mk hT8
              have HT9 := Aside0.mk hT9
              have h60 := H6.out
              have HG := Aside0.mk (show calls_Get.f T9 = some (0, 0, 0, 0, 0, ByteArray.empty, 0, 0, 0, [], [], 5) by
                rw [hT9, hT8, hT6, HR1.out]
                exact fixed_get HOK.out 2 nn HNN.out HFN.out more (by omega) HOM.out)
              have HL1 := Aside0.mk (show (([] : List Int).length + 24) * 1 ≤ 140737488355328 by decide)
              have HL2 := Aside0.mk (show (T6.length + (beL nn 4).length) * 1 ≤ 140737488355328 by rw [hl6, beL_length]; omega)
              have HL3 := Aside0.mk (show (T8.length + more.length) * 1 ≤ 140737488355328 by rw [hT8, List.length_append, hl6, beL_length]; omega)
              have HL6 := Aside0.mk hl6
              have hb5a := below_alloc (Below.refl w5.heap.size w5) (.cells #[.int .i64 4, .int .i64 8, .int .i64 24] 3)
              have HB5 := Aside0.mk hb5a
              have HR6 := Aside0.mk (show Kd.C (Kd.int .u8) (w5.alloc (.cells #[.int .i64 4, .int .i64 8, .int .i64 24] 3)) A5 24 T6 by
                have h := C_take 24 (by have := HLT.out; omega) (Kd.C_below HR5.out hb5a)
                rw [← hT6, hl6] at h
                exact h)
              clear hbad hT6 hT8 hT9 hl6 h60 hb5a
              go_wp2_with (at_builtin; refine Kd.R_append_row (Value.int .u8) (0 : Int) (h1 := fun _ => rfl) (w0 := w5) w5.heap.size rfl _ _ 26 5 (.int .u8 0) 1 rfl Try.underlying26 infoB rfl (by decide) (.slice none 0 0) [] T6 A5 _ c5 (fun _ => True) rfl rfl (fun _ _ => trivial) (Kd.R_nil _ _ _ _ _) HR6.out HB5.out HB5.out.size HL1.out ?_; intro v6 w6 ho6 hb6 hg6 hat6; rw [List.nil_append] at ho6; obtain ⟨A6, c6, rfl, _⟩ := OB_reads ho6; clear hg6 hat6)
              refine (words_Put.calls nn (beL nn 4) w6 rfl).mono ?_
              rintro e w7 ⟨v7, rfl, ho7, hb7⟩
              obtain ⟨A7, c7, rfl, hc7, hR7⟩ := OB_reads ho7
              have HB7 := Aside0.mk (below_then hb6 hb6.size hb7)
              have HO7 := Aside0.mk (Kd.R_below ho6 hb7)
              have HR7 := Aside0.mk hR7
              clear ho6 hb6 ho7 hb7 hc7 hR7
              go_wp2_with (first | (at_builtin; refine Kd.R_append_row (Value.int .u8) (0 : Int) (h1 := fun _ => rfl) (w0 := w5) w5.heap.size rfl _ _ 26 5 (.int .u8 0) 1 rfl Try.underlying26 infoB rfl (by decide) _ T6 (beL nn 4) A7 _ c7 (fun _ => True) rfl rfl (fun _ _ => trivial) HO7.out HR7.out HB7.out HB7.out.size HL2.out ?_; intro v8 w8 ho8 hb8 hg8 hat8; rw [← HT8.out] at ho8; obtain ⟨A8, c8, rfl, _⟩ := OB_reads ho8; clear hg8 hat8; have HO8 := Aside0.mk ho8; have HB8 := Aside0.mk hb8; have HM8 := Aside0.mk (Kd.C_below HS5.out.M hb8); clear ho8 hb8) | (at_builtin; refine Kd.R_append_row (Value.int .u8) (0 : Int) (h1 := fun _ => rfl) (w0 := w5) w5.heap.size rfl _ _ 26 5 (.int .u8 0) 1 rfl Try.underlying26 infoB rfl (by decide) _ T8 more Am _ cm (fun _ => True) rfl rfl (fun _ _ => trivial) HO8.out HM8.out HB8.out HB8.out.size HL3.out ?_; intro v9 w9 ho9 hb9 hg9 hat9; rw [← HT9.out] at ho9; obtain ⟨A9, c9, rfl, hc9, hR9⟩ := OB_reads ho9; clear hg9 hat9))
              refine (calls_Get.calls A9 c9 T9 0 0 0 0 0 ByteArray.empty 0 0 0 [] [] 5 w9 hR9 hc9 HG.out).mono ?_
              rintro e w10 ⟨v10, v11, rfl, ho10, ho11, hb10⟩
              obtain ⟨A10, c10, rfl, _⟩ := Kd.R_reads ho10
              obtain ⟨A11, c11, rfl, _⟩ := OB_reads ho11
              have HS10 := Aside0.mk ((HS5.out.step hb9).step (below_then hb10 hb10.size (below_alloc (Below.refl _ _) (.cells #[.int .u32 0, .int .u32 0, .int .u32 0, .int .u32 0, .int .u32 0, .string ByteArray.empty, .int .u32 0, .int .u32 0, .int .u32 0, .slice A10 0 c10, .slice A11 0 c11] 28))))
              clear ho9 hb9 hc9 hR9 ho10 ho11 hb10
              go_wp2
              go_ret
              exact ⟨rfl, HS10.out.be⟩
end Go.Proofs.Ytoalknneifpehaa.Hand
