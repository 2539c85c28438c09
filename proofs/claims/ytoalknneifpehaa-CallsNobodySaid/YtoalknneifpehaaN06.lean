import Derived.Test.YtoalknneifpehaaQ06g
namespace Go.Proofs.Ytoalknneifpehaa.Hand
open Go.RowKit Go.Proofs.Ytoalknneifpehaa.GB Go.Proofs.Ytoalknneifpehaa.GC Go.Proofs.Ytoalknneifpehaa.G6S Go.Proofs.YtoalknneifpehaaW.PrintWords Go.Proofs.YtoalknneifpehaaW.PrintLast Go.Proofs.YtoalknneifpehaaW.PrintMore
set_option linter.unusedVariables false
set_option linter.unusedSimpArgs false

/-- A call that came, in a block of its own. -/
structure NS (w0 w : World) (x p v o f : Int) (m : ByteArray) (s u g : Int) (Ag : Option Addr) (cg : Nat) (gs : List Int) (Ab : Option Addr) (cb : Nat) (b : List Int) : Prop where
  be : Below w0.heap.size w0 w
  blk : Call11 w w0.heap.size x p v o f m s u g (.slice Ag gs.length cg) (.slice Ab b.length cb)
  G : Kd.C (Kd.int .u32) w Ag gs.length gs
  B : Kd.C (Kd.int .u8) w Ab b.length b
theorem NS.step {w0 w w1 : World} {x p v o f : Int} {m : ByteArray} {s u g : Int} {Ag : Option Addr} {cg : Nat} {gs : List Int} {Ab : Option Addr} {cb : Nat} {b : List Int} (h : NS w0 w x p v o f m s u g Ag cg gs Ab cb b) (hbe : Below w.heap.size w w1) : NS w0 w1 x p v o f m s u g Ag cg gs Ab cb b :=
  ⟨below_then h.be h.be.size hbe, h.blk.below hbe, Kd.C_below h.G hbe, Kd.C_below h.B hbe⟩
theorem NS.start {w : World} {x p v o f : Int} {m : ByteArray} {s u g : Int} {Ag : Option Addr} {cg : Nat} {gs : List Int} {Ab : Option Addr} {cb : Nat} {b : List Int} (hg : Kd.C (Kd.int .u32) w Ag gs.length gs) (hb : Kd.C (Kd.int .u8) w Ab b.length b) : NS w (w.alloc (.cells #[.int .u32 x, .int .u32 p, .int .u32 v, .int .u32 o, .int .u32 f, .string m, .int .u32 s, .int .u32 u, .int .u32 g, .slice Ag gs.length cg, .slice Ab b.length cb] 28)) x p v o f m s u g Ag cg gs Ab cb b := by
  have h := below_alloc (Below.refl w.heap.size w) (.cells #[.int .u32 x, .int .u32 p, .int .u32 v, .int .u32 o, .int .u32 f, .string m, .int .u32 s, .int .u32 u, .int .u32 g, .slice Ag gs.length cg, .slice Ab b.length cb] 28)
  exact ⟨h, call11_new w _ _ _ _ _ _ _ _ _ _ _, Kd.C_below hg h, Kd.C_below hb h⟩
/-- What calls.Put says of a call without whom it is from. -/
theorem bare_put {x p v o f : Int} {m : ByteArray} {s u g : Int} {gs b : List Int} (h : CallA x p v o f m s u g gs b) :
    ∃ r, calls_Put.f x p v o 0 ByteArray.empty 0 0 0 [] b = some (r, if b.length ≤ 65496 then 0 else 3) := by
  have z : R32 0 := ⟨by omega, by omega⟩
  have hok : CallOk x p v o 0 ByteArray.empty 0 0 0 [] := ⟨h.hx, h.hp, h.hv, h.ho, .inl rfl, fun _ => ⟨rfl, rfl, rfl, rfl, rfl⟩, fun h => absurd h (by decide), z, z, z, by simp⟩
  have hl : (callB x p v o 0 ByteArray.empty 0 0 0 []).length = 40 := by rw [callB_length]; rfl
  have hA : CallA x p v o 0 ByteArray.empty 0 0 0 [] b := ⟨h.hx, h.hp, h.hv, h.ho, z, z, z, z, by simp, by show (0 : Nat) ≤ _; omega, by simp, h.hb⟩
  rcases hA.cases with ⟨_, hn⟩ | ⟨hc, _, hlen⟩ | ⟨hc, _, hlen⟩
  · exact absurd hok hn
  · rw [List.length_append, hl] at hlen
    exact ⟨_, by rw [hc, if_neg (by omega)]⟩
  · rw [List.length_append, hl] at hlen
    exact ⟨_, by rw [hc, if_pos (by omega)]⟩
theorem told_put {x p v o f : Int} {m : ByteArray} {s u g : Int} {gs b : List Int} (h : CallA x p v o f m s u g gs b) (ht : toldB m s u g gs = true) : calls_Put.f x p v o 0 m s u g gs b = some ([], 1) := by
  unfold calls_Put.f
  rw [if_pos ⟨⟨h.hs, h.hu, h.hg, by omega⟩, h.hm, h.hl, h.hb⟩, if_pos (.inr ⟨rfl, ht⟩)]
theorem other_put {x p v o f : Int} {m : ByteArray} {s u g : Int} {gs b : List Int} (h : CallA x p v o f m s u g gs b) : ∃ r1 r2, calls_Put.f x p v o f m s u g gs b = some (r1, r2) ∧ (1 < f → r2 = 1) := by
  rcases h.cases with ⟨hc, _⟩ | ⟨hc, hok, _⟩ | ⟨hc, hok, _⟩
  · exact ⟨_, _, hc, fun _ => rfl⟩
  · exact ⟨_, _, hc, fun h1 => by rcases hok.hf with hf | hf <;> omega⟩
  · exact ⟨_, _, hc, fun h1 => by rcases hok.hf with hf | hf <;> omega⟩
theorem untold {m : ByteArray} {s u g : Int} {gs : List Int} (ht : toldB m s u g gs = false) : m = ByteArray.empty ∧ s = 0 ∧ u = 0 ∧ g = 0 ∧ gs = [] := by
  unfold toldB at ht
  simp only [Bool.or_eq_false_iff, Bool.not_eq_false', beq_iff_eq] at ht
  obtain ⟨⟨⟨⟨k1, k2⟩, k3⟩, k4⟩, k5⟩ := ht
  exact ⟨ByteArray.size_eq_zero_iff.mp k1, k2, k3, k4, List.eq_nil_of_length_eq_zero k5⟩
set_option maxHeartbeats 8000000 in
set_option maxRecDepth 100000 in
theorem callsNobody_calls (x p v o f : Int) (m : ByteArray) (s u g : Int) (Ag : Option Addr) (cg : Nat) (gs : List Int) (Ab : Option Addr) (cb : Nat) (b : List Int) (w : World) (hA : CallA x p v o f m s u g gs b) (hrg : Kd.C (Kd.int .u32) w Ag gs.length gs) (hcg : gs.length ≤ cg) (hrb : Kd.C (Kd.int .u8) w Ab b.length b) (hcb : b.length ≤ cb) :
    Calls Try.prog 7 #[.agg #[.int .u32 x, .int .u32 p, .int .u32 v, .int .u32 o, .int .u32 f, .string m, .int .u32 s, .int .u32 u, .int .u32 g, .slice Ag gs.length cg, .slice Ab b.length cb]] w fun e w' => e = .returned (.bool true) ∧ Below w.heap.size w w' := by
  obtain ⟨wb, hwb⟩ : ∃ wb, w.alloc (.cells #[.int .u32 x, .int .u32 p, .int .u32 v, .int .u32 o, .int .u32 f, .string m, .int .u32 s, .int .u32 u, .int .u32 g, .slice Ag gs.length cg, .slice Ab b.length cb] 28) = wb := ⟨_, rfl⟩
  have HS := Aside0.mk (show NS w wb x p v o f m s u g Ag cg gs Ab cb b from hwb ▸ NS.start hrg hrb)
  have HW := Aside0.mk hwb
  have HA := Aside0.mk hA
  have HCG := Aside0.mk hcg
  have HCB := Aside0.mk hcb
  obtain ⟨q, hq, hq2⟩ := great_f x p v o f m s u g gs b
  have HQ := Aside0.mk hq
  have HQ2 := Aside0.mk hq2
  clear hrg hrb hcg hcb hA hwb hq hq2
  go_enter Try.func7, Try.ntmps7
  go_wp2_with fail
  rw [HW.out]
  refine (wharfingerlaw06_alive.calls true _ rfl).mono ?_
  rintro e w1 ⟨rfl, hb1⟩
  have HS1 := Aside0.mk (HS.out.step hb1)
  clear hb1 HS HW
  have y0 : w1.cell? ⟨w.heap.size, 0, none⟩ = some (.int .u32 x) := HS1.out.blk.c0
  have y1 : w1.cell? ⟨w.heap.size, 1, none⟩ = some (.int .u32 p) := HS1.out.blk.c1
  have y2 : w1.cell? ⟨w.heap.size, 2, none⟩ = some (.int .u32 v) := HS1.out.blk.c2
  have y3 : w1.cell? ⟨w.heap.size, 3, none⟩ = some (.int .u32 o) := HS1.out.blk.c3
  have y4 : w1.cell? ⟨w.heap.size, 4, none⟩ = some (.int .u32 f) := HS1.out.blk.c4
  have y5 : w1.cell? ⟨w.heap.size, 5, none⟩ = some (.string m) := HS1.out.blk.c5
  have y6 : w1.cell? ⟨w.heap.size, 6, none⟩ = some (.int .u32 s) := HS1.out.blk.c6
  have y7 : w1.cell? ⟨w.heap.size, 7, none⟩ = some (.int .u32 u) := HS1.out.blk.c7
  have y8 : w1.cell? ⟨w.heap.size, 8, none⟩ = some (.int .u32 g) := HS1.out.blk.c8
  have y9 : w1.cell? ⟨w.heap.size, 9, none⟩ = some (.slice Ag gs.length cg) := HS1.out.blk.c9
  have y10 : w1.cell? ⟨w.heap.size, 10, none⟩ = some (.slice Ab b.length cb) := HS1.out.blk.c10
  go_wp2_with fail
  clear y0 y1 y2 y3 y4 y5 y6 y7 y8 y9 y10
  refine (wharfingerlaw06_great.calls x p v o f m s u g Ag cg gs Ab cb b q w1 HS1.out.G HCG.out HS1.out.B HCB.out HQ.out).mono ?_
  rintro e w2 ⟨rfl, hb2⟩
  have HS2 := Aside0.mk (HS1.out.step hb2)
  clear hb2 HS1
  cases q with
  | true =>
    go_wp2_with fail
    refine (wharfingerlaw06_alive.calls true _ rfl).mono ?_
    rintro e w3 ⟨rfl, hb3⟩
    have HS3 := Aside0.mk (HS2.out.step hb3)
    clear hb3
    go_wp2
    go_ret
    exact ⟨rfl, HS3.out.be⟩
  | false =>
    obtain ⟨r1, r2, hr, hr2⟩ := other_put HA.out
    have HR := Aside0.mk hr
    have HR2 := Aside0.mk hr2
    clear hr hr2
    have y0 : w2.cell? ⟨w.heap.size, 0, none⟩ = some (.int .u32 x) := HS2.out.blk.c0
    have y1 : w2.cell? ⟨w.heap.size, 1, none⟩ = some (.int .u32 p) := HS2.out.blk.c1
    have y2 : w2.cell? ⟨w.heap.size, 2, none⟩ = some (.int .u32 v) := HS2.out.blk.c2
    have y3 : w2.cell? ⟨w.heap.size, 3, none⟩ = some (.int .u32 o) := HS2.out.blk.c3
    have y4 : w2.cell? ⟨w.heap.size, 4, none⟩ = some (.int .u32 f) := HS2.out.blk.c4
    have y5 : w2.cell? ⟨w.heap.size, 5, none⟩ = some (.string m) := HS2.out.blk.c5
    have y6 : w2.cell? ⟨w.heap.size, 6, none⟩ = some (.int .u32 s) := HS2.out.blk.c6
    have y7 : w2.cell? ⟨w.heap.size, 7, none⟩ = some (.int .u32 u) := HS2.out.blk.c7
    have y8 : w2.cell? ⟨w.heap.size, 8, none⟩ = some (.int .u32 g) := HS2.out.blk.c8
    have y9 : w2.cell? ⟨w.heap.size, 9, none⟩ = some (.slice Ag gs.length cg) := HS2.out.blk.c9
    have y10 : w2.cell? ⟨w.heap.size, 10, none⟩ = some (.slice Ab b.length cb) := HS2.out.blk.c10
    go_wp2_with fail
    clear y0 y1 y2 y3 y4 y5 y6 y7 y8 y9 y10
    refine (calls_Put.calls x p v o f m s u g Ag cg gs Ab cb b r1 r2 w2 HS2.out.G HCG.out HS2.out.B HCB.out HR.out).mono ?_
    rintro e w3 ⟨v3, rfl, ho3, hb3⟩
    obtain ⟨A3, c3, rfl, _⟩ := OB_reads ho3
    have HS3 := Aside0.mk (HS2.out.step hb3)
    clear hb3 ho3 HS2
    by_cases hf : 1 < f
    · obtain rfl := HR2.out hf
      have c1 : decide (f > 1) = true := decide_eq_true hf
      have y4 := HS3.out.blk.c4
      clear hf
      go_wp2
      go_ret
      exact ⟨rfl, HS3.out.be⟩
    · have c1 : decide (f > 1) = false := decide_eq_false hf
      clear hf HR2 HR
      have y0 : w3.cell? ⟨w.heap.size, 0, none⟩ = some (.int .u32 x) := HS3.out.blk.c0
      have y1 : w3.cell? ⟨w.heap.size, 1, none⟩ = some (.int .u32 p) := HS3.out.blk.c1
      have y2 : w3.cell? ⟨w.heap.size, 2, none⟩ = some (.int .u32 v) := HS3.out.blk.c2
      have y3 : w3.cell? ⟨w.heap.size, 3, none⟩ = some (.int .u32 o) := HS3.out.blk.c3
      have y4 : w3.cell? ⟨w.heap.size, 4, none⟩ = some (.int .u32 f) := HS3.out.blk.c4
      have y5 : w3.cell? ⟨w.heap.size, 5, none⟩ = some (.string m) := HS3.out.blk.c5
      have y6 : w3.cell? ⟨w.heap.size, 6, none⟩ = some (.int .u32 s) := HS3.out.blk.c6
      have y7 : w3.cell? ⟨w.heap.size, 7, none⟩ = some (.int .u32 u) := HS3.out.blk.c7
      have y8 : w3.cell? ⟨w.heap.size, 8, none⟩ = some (.int .u32 g) := HS3.out.blk.c8
      have y9 : w3.cell? ⟨w.heap.size, 9, none⟩ = some (.slice Ag gs.length cg) := HS3.out.blk.c9
      have y10 : w3.cell? ⟨w.heap.size, 10, none⟩ = some (.slice Ab b.length cb) := HS3.out.blk.c10
      have HS4 := Aside0.mk (HS3.out.step (below_alloc (Below.refl _ _) (.cells #[.int .u32 x, .int .u32 p, .int .u32 v, .int .u32 o, .int .u32 0, .string ⟨#[]⟩, .int .u32 0, .int .u32 0, .int .u32 0, .slice none 0 0, .slice Ab b.length cb] 28)))
      have HE5 := Aside0.mk (show Blk11 ((w3.alloc (.cells #[.int .u32 x, .int .u32 p, .int .u32 v, .int .u32 o, .int .u32 0, .string ⟨#[]⟩, .int .u32 0, .int .u32 0, .int .u32 0, .slice none 0 0, .slice Ab b.length cb] 28)).alloc (.cells #[.int .u32 x, .int .u32 p, .int .u32 v, .int .u32 o, .int .u32 f, .string m, .int .u32 s, .int .u32 u, .int .u32 g, .slice Ag gs.length cg, .slice Ab b.length cb] 28)) (w3.heap.size + 1) #[.int .u32 x, .int .u32 p, .int .u32 v, .int .u32 o, .int .u32 f, .string m, .int .u32 s, .int .u32 u, .int .u32 g, .slice Ag gs.length cg, .slice Ab b.length cb] from by
        have h := call11_new (w3.alloc (.cells #[.int .u32 x, .int .u32 p, .int .u32 v, .int .u32 o, .int .u32 0, .string ⟨#[]⟩, .int .u32 0, .int .u32 0, .int .u32 0, .slice none 0 0, .slice Ab b.length cb] 28)) x p v o f m s u g (.slice Ag gs.length cg) (.slice Ab b.length cb)
        rw [show (w3.alloc (.cells #[.int .u32 x, .int .u32 p, .int .u32 v, .int .u32 o, .int .u32 0, .string ⟨#[]⟩, .int .u32 0, .int .u32 0, .int .u32 0, .slice none 0 0, .slice Ab b.length cb] 28)).heap.size = w3.heap.size + 1 by simp] at h
        exact h)
      have HE6 := Aside0.mk (show Blk11 ((w3.alloc (.cells #[.int .u32 x, .int .u32 p, .int .u32 v, .int .u32 o, .int .u32 0, .string ⟨#[]⟩, .int .u32 0, .int .u32 0, .int .u32 0, .slice none 0 0, .slice Ab b.length cb] 28)).alloc (.cells #[.int .u32 x, .int .u32 p, .int .u32 v, .int .u32 o, .int .u32 0, .string m, .int .u32 s, .int .u32 u, .int .u32 g, .slice Ag gs.length cg, .slice Ab b.length cb] 28)) (w3.heap.size + 1) #[.int .u32 x, .int .u32 p, .int .u32 v, .int .u32 o, .int .u32 0, .string m, .int .u32 s, .int .u32 u, .int .u32 g, .slice Ag gs.length cg, .slice Ab b.length cb] from by
        have h := call11_new (w3.alloc (.cells #[.int .u32 x, .int .u32 p, .int .u32 v, .int .u32 o, .int .u32 0, .string ⟨#[]⟩, .int .u32 0, .int .u32 0, .int .u32 0, .slice none 0 0, .slice Ab b.length cb] 28)) x p v o 0 m s u g (.slice Ag gs.length cg) (.slice Ab b.length cb)
        rw [show (w3.alloc (.cells #[.int .u32 x, .int .u32 p, .int .u32 v, .int .u32 o, .int .u32 0, .string ⟨#[]⟩, .int .u32 0, .int .u32 0, .int .u32 0, .slice none 0 0, .slice Ab b.length cb] 28)).heap.size = w3.heap.size + 1 by simp] at h
        exact h)
      have HF6 := Aside0.mk (show Blk11 ((w3.alloc (.cells #[.int .u32 x, .int .u32 p, .int .u32 v, .int .u32 o, .int .u32 0, .string ⟨#[]⟩, .int .u32 0, .int .u32 0, .int .u32 0, .slice none 0 0, .slice Ab b.length cb] 28)).alloc (.cells #[.int .u32 x, .int .u32 p, .int .u32 v, .int .u32 o, .int .u32 0, .string m, .int .u32 s, .int .u32 u, .int .u32 g, .slice Ag gs.length cg, .slice Ab b.length cb] 28)) w3.heap.size #[.int .u32 x, .int .u32 p, .int .u32 v, .int .u32 o, .int .u32 0, .string ⟨#[]⟩, .int .u32 0, .int .u32 0, .int .u32 0, .slice none 0 0, .slice Ab b.length cb] from (Call11.below (call11_new w3 x p v o 0 ⟨#[]⟩ 0 0 0 (.slice none 0 0) (.slice Ab b.length cb)) (below_alloc (Below.refl _ _) _)))
      have HS6 := Aside0.mk (HS4.out.step (below_alloc (Below.refl _ _) (.cells #[.int .u32 x, .int .u32 p, .int .u32 v, .int .u32 o, .int .u32 0, .string m, .int .u32 s, .int .u32 u, .int .u32 g, .slice Ag gs.length cg, .slice Ab b.length cb] 28)))
      have q0 : (w3.alloc (.cells #[.int .u32 x, .int .u32 p, .int .u32 v, .int .u32 o, .int .u32 0, .string ⟨#[]⟩, .int .u32 0, .int .u32 0, .int .u32 0, .slice none 0 0, .slice Ab b.length cb] 28)).cell? ⟨w.heap.size, 0, none⟩ = some (.int .u32 x) := (show Blk11 (w3.alloc (.cells #[.int .u32 x, .int .u32 p, .int .u32 v, .int .u32 o, .int .u32 0, .string ⟨#[]⟩, .int .u32 0, .int .u32 0, .int .u32 0, .slice none 0 0, .slice Ab b.length cb] 28)) w.heap.size _ from HS4.out.blk).cell 0
      have q1 : (w3.alloc (.cells #[.int .u32 x, .int .u32 p, .int .u32 v, .int .u32 o, .int .u32 0, .string ⟨#[]⟩, .int .u32 0, .int .u32 0, .int .u32 0, .slice none 0 0, .slice Ab b.length cb] 28)).cell? ⟨w.heap.size, 1, none⟩ = some (.int .u32 p) := (show Blk11 (w3.alloc (.cells #[.int .u32 x, .int .u32 p, .int .u32 v, .int .u32 o, .int .u32 0, .string ⟨#[]⟩, .int .u32 0, .int .u32 0, .int .u32 0, .slice none 0 0, .slice Ab b.length cb] 28)) w.heap.size _ from HS4.out.blk).cell 1
      have q2 : (w3.alloc (.cells #[.int .u32 x, .int .u32 p, .int .u32 v, .int .u32 o, .int .u32 0, .string ⟨#[]⟩, .int .u32 0, .int .u32 0, .int .u32 0, .slice none 0 0, .slice Ab b.length cb] 28)).cell? ⟨w.heap.size, 2, none⟩ = some (.int .u32 v) := (show Blk11 (w3.alloc (.cells #[.int .u32 x, .int .u32 p, .int .u32 v, .int .u32 o, .int .u32 0, .string ⟨#[]⟩, .int .u32 0, .int .u32 0, .int .u32 0, .slice none 0 0, .slice Ab b.length cb] 28)) w.heap.size _ from HS4.out.blk).cell 2
      have q3 : (w3.alloc (.cells #[.int .u32 x, .int .u32 p, .int .u32 v, .int .u32 o, .int .u32 0, .string ⟨#[]⟩, .int .u32 0, .int .u32 0, .int .u32 0, .slice none 0 0, .slice Ab b.length cb] 28)).cell? ⟨w.heap.size, 3, none⟩ = some (.int .u32 o) := (show Blk11 (w3.alloc (.cells #[.int .u32 x, .int .u32 p, .int .u32 v, .int .u32 o, .int .u32 0, .string ⟨#[]⟩, .int .u32 0, .int .u32 0, .int .u32 0, .slice none 0 0, .slice Ab b.length cb] 28)) w.heap.size _ from HS4.out.blk).cell 3
      have q4 : (w3.alloc (.cells #[.int .u32 x, .int .u32 p, .int .u32 v, .int .u32 o, .int .u32 0, .string ⟨#[]⟩, .int .u32 0, .int .u32 0, .int .u32 0, .slice none 0 0, .slice Ab b.length cb] 28)).cell? ⟨w.heap.size, 4, none⟩ = some (.int .u32 f) := (show Blk11 (w3.alloc (.cells #[.int .u32 x, .int .u32 p, .int .u32 v, .int .u32 o, .int .u32 0, .string ⟨#[]⟩, .int .u32 0, .int .u32 0, .int .u32 0, .slice none 0 0, .slice Ab b.length cb] 28)) w.heap.size _ from HS4.out.blk).cell 4
      have q5 : (w3.alloc (.cells #[.int .u32 x, .int .u32 p, .int .u32 v, .int .u32 o, .int .u32 0, .string ⟨#[]⟩, .int .u32 0, .int .u32 0, .int .u32 0, .slice none 0 0, .slice Ab b.length cb] 28)).cell? ⟨w.heap.size, 5, none⟩ = some (.string m) := (show Blk11 (w3.alloc (.cells #[.int .u32 x, .int .u32 p, .int .u32 v, .int .u32 o, .int .u32 0, .string ⟨#[]⟩, .int .u32 0, .int .u32 0, .int .u32 0, .slice none 0 0, .slice Ab b.length cb] 28)) w.heap.size _ from HS4.out.blk).cell 5
      have q6 : (w3.alloc (.cells #[.int .u32 x, .int .u32 p, .int .u32 v, .int .u32 o, .int .u32 0, .string ⟨#[]⟩, .int .u32 0, .int .u32 0, .int .u32 0, .slice none 0 0, .slice Ab b.length cb] 28)).cell? ⟨w.heap.size, 6, none⟩ = some (.int .u32 s) := (show Blk11 (w3.alloc (.cells #[.int .u32 x, .int .u32 p, .int .u32 v, .int .u32 o, .int .u32 0, .string ⟨#[]⟩, .int .u32 0, .int .u32 0, .int .u32 0, .slice none 0 0, .slice Ab b.length cb] 28)) w.heap.size _ from HS4.out.blk).cell 6
      have q7 : (w3.alloc (.cells #[.int .u32 x, .int .u32 p, .int .u32 v, .int .u32 o, .int .u32 0, .string ⟨#[]⟩, .int .u32 0, .int .u32 0, .int .u32 0, .slice none 0 0, .slice Ab b.length cb] 28)).cell? ⟨w.heap.size, 7, none⟩ = some (.int .u32 u) := (show Blk11 (w3.alloc (.cells #[.int .u32 x, .int .u32 p, .int .u32 v, .int .u32 o, .int .u32 0, .string ⟨#[]⟩, .int .u32 0, .int .u32 0, .int .u32 0, .slice none 0 0, .slice Ab b.length cb] 28)) w.heap.size _ from HS4.out.blk).cell 7
      have q8 : (w3.alloc (.cells #[.int .u32 x, .int .u32 p, .int .u32 v, .int .u32 o, .int .u32 0, .string ⟨#[]⟩, .int .u32 0, .int .u32 0, .int .u32 0, .slice none 0 0, .slice Ab b.length cb] 28)).cell? ⟨w.heap.size, 8, none⟩ = some (.int .u32 g) := (show Blk11 (w3.alloc (.cells #[.int .u32 x, .int .u32 p, .int .u32 v, .int .u32 o, .int .u32 0, .string ⟨#[]⟩, .int .u32 0, .int .u32 0, .int .u32 0, .slice none 0 0, .slice Ab b.length cb] 28)) w.heap.size _ from HS4.out.blk).cell 8
      have q9 : (w3.alloc (.cells #[.int .u32 x, .int .u32 p, .int .u32 v, .int .u32 o, .int .u32 0, .string ⟨#[]⟩, .int .u32 0, .int .u32 0, .int .u32 0, .slice none 0 0, .slice Ab b.length cb] 28)).cell? ⟨w.heap.size, 9, none⟩ = some (.slice Ag gs.length cg) := (show Blk11 (w3.alloc (.cells #[.int .u32 x, .int .u32 p, .int .u32 v, .int .u32 o, .int .u32 0, .string ⟨#[]⟩, .int .u32 0, .int .u32 0, .int .u32 0, .slice none 0 0, .slice Ab b.length cb] 28)) w.heap.size _ from HS4.out.blk).cell 9
      have q10 : (w3.alloc (.cells #[.int .u32 x, .int .u32 p, .int .u32 v, .int .u32 o, .int .u32 0, .string ⟨#[]⟩, .int .u32 0, .int .u32 0, .int .u32 0, .slice none 0 0, .slice Ab b.length cb] 28)).cell? ⟨w.heap.size, 10, none⟩ = some (.slice Ab b.length cb) := (show Blk11 (w3.alloc (.cells #[.int .u32 x, .int .u32 p, .int .u32 v, .int .u32 o, .int .u32 0, .string ⟨#[]⟩, .int .u32 0, .int .u32 0, .int .u32 0, .slice none 0 0, .slice Ab b.length cb] 28)) w.heap.size _ from HS4.out.blk).cell 10
      have g4 : ((w3.alloc (.cells #[.int .u32 x, .int .u32 p, .int .u32 v, .int .u32 o, .int .u32 0, .string ⟨#[]⟩, .int .u32 0, .int .u32 0, .int .u32 0, .slice none 0 0, .slice Ab b.length cb] 28)).alloc (.cells #[.int .u32 x, .int .u32 p, .int .u32 v, .int .u32 o, .int .u32 f, .string m, .int .u32 s, .int .u32 u, .int .u32 g, .slice Ag gs.length cg, .slice Ab b.length cb] 28)).cell? ⟨w3.heap.size + 1, 4, none⟩ = some (.int .u32 f) := HE5.out.cell 4
      have z4 : ((w3.alloc (.cells #[.int .u32 x, .int .u32 p, .int .u32 v, .int .u32 o, .int .u32 0, .string ⟨#[]⟩, .int .u32 0, .int .u32 0, .int .u32 0, .slice none 0 0, .slice Ab b.length cb] 28)).alloc (.cells #[.int .u32 x, .int .u32 p, .int .u32 v, .int .u32 o, .int .u32 f, .string m, .int .u32 s, .int .u32 u, .int .u32 g, .slice Ag gs.length cg, .slice Ab b.length cb] 28)).frozen? ⟨w3.heap.size + 1, 4, none⟩ = false := HE5.out.fz 4
      have b0 : ((w3.alloc (.cells #[.int .u32 x, .int .u32 p, .int .u32 v, .int .u32 o, .int .u32 0, .string ⟨#[]⟩, .int .u32 0, .int .u32 0, .int .u32 0, .slice none 0 0, .slice Ab b.length cb] 28)).alloc (.cells #[.int .u32 x, .int .u32 p, .int .u32 v, .int .u32 o, .int .u32 0, .string m, .int .u32 s, .int .u32 u, .int .u32 g, .slice Ag gs.length cg, .slice Ab b.length cb] 28)).cell? ⟨w3.heap.size, 0, none⟩ = some (.int .u32 x) := HF6.out.cell 0
      have b1 : ((w3.alloc (.cells #[.int .u32 x, .int .u32 p, .int .u32 v, .int .u32 o, .int .u32 0, .string ⟨#[]⟩, .int .u32 0, .int .u32 0, .int .u32 0, .slice none 0 0, .slice Ab b.length cb] 28)).alloc (.cells #[.int .u32 x, .int .u32 p, .int .u32 v, .int .u32 o, .int .u32 0, .string m, .int .u32 s, .int .u32 u, .int .u32 g, .slice Ag gs.length cg, .slice Ab b.length cb] 28)).cell? ⟨w3.heap.size, 1, none⟩ = some (.int .u32 p) := HF6.out.cell 1
      have b2 : ((w3.alloc (.cells #[.int .u32 x, .int .u32 p, .int .u32 v, .int .u32 o, .int .u32 0, .string ⟨#[]⟩, .int .u32 0, .int .u32 0, .int .u32 0, .slice none 0 0, .slice Ab b.length cb] 28)).alloc (.cells #[.int .u32 x, .int .u32 p, .int .u32 v, .int .u32 o, .int .u32 0, .string m, .int .u32 s, .int .u32 u, .int .u32 g, .slice Ag gs.length cg, .slice Ab b.length cb] 28)).cell? ⟨w3.heap.size, 2, none⟩ = some (.int .u32 v) := HF6.out.cell 2
      have b3 : ((w3.alloc (.cells #[.int .u32 x, .int .u32 p, .int .u32 v, .int .u32 o, .int .u32 0, .string ⟨#[]⟩, .int .u32 0, .int .u32 0, .int .u32 0, .slice none 0 0, .slice Ab b.length cb] 28)).alloc (.cells #[.int .u32 x, .int .u32 p, .int .u32 v, .int .u32 o, .int .u32 0, .string m, .int .u32 s, .int .u32 u, .int .u32 g, .slice Ag gs.length cg, .slice Ab b.length cb] 28)).cell? ⟨w3.heap.size, 3, none⟩ = some (.int .u32 o) := HF6.out.cell 3
      have b4 : ((w3.alloc (.cells #[.int .u32 x, .int .u32 p, .int .u32 v, .int .u32 o, .int .u32 0, .string ⟨#[]⟩, .int .u32 0, .int .u32 0, .int .u32 0, .slice none 0 0, .slice Ab b.length cb] 28)).alloc (.cells #[.int .u32 x, .int .u32 p, .int .u32 v, .int .u32 o, .int .u32 0, .string m, .int .u32 s, .int .u32 u, .int .u32 g, .slice Ag gs.length cg, .slice Ab b.length cb] 28)).cell? ⟨w3.heap.size, 4, none⟩ = some (.int .u32 0) := HF6.out.cell 4
      have b5 : ((w3.alloc (.cells #[.int .u32 x, .int .u32 p, .int .u32 v, .int .u32 o, .int .u32 0, .string ⟨#[]⟩, .int .u32 0, .int .u32 0, .int .u32 0, .slice none 0 0, .slice Ab b.length cb] 28)).alloc (.cells #[.int .u32 x, .int .u32 p, .int .u32 v, .int .u32 o, .int .u32 0, .string m, .int .u32 s, .int .u32 u, .int .u32 g, .slice Ag gs.length cg, .slice Ab b.length cb] 28)).cell? ⟨w3.heap.size, 5, none⟩ = some (.string ⟨#[]⟩) := HF6.out.cell 5
      have b6 : ((w3.alloc (.cells #[.int .u32 x, .int .u32 p, .int .u32 v, .int .u32 o, .int .u32 0, .string ⟨#[]⟩, .int .u32 0, .int .u32 0, .int .u32 0, .slice none 0 0, .slice Ab b.length cb] 28)).alloc (.cells #[.int .u32 x, .int .u32 p, .int .u32 v, .int .u32 o, .int .u32 0, .string m, .int .u32 s, .int .u32 u, .int .u32 g, .slice Ag gs.length cg, .slice Ab b.length cb] 28)).cell? ⟨w3.heap.size, 6, none⟩ = some (.int .u32 0) := HF6.out.cell 6
      have b7 : ((w3.alloc (.cells #[.int .u32 x, .int .u32 p, .int .u32 v, .int .u32 o, .int .u32 0, .string ⟨#[]⟩, .int .u32 0, .int .u32 0, .int .u32 0, .slice none 0 0, .slice Ab b.length cb] 28)).alloc (.cells #[.int .u32 x, .int .u32 p, .int .u32 v, .int .u32 o, .int .u32 0, .string m, .int .u32 s, .int .u32 u, .int .u32 g, .slice Ag gs.length cg, .slice Ab b.length cb] 28)).cell? ⟨w3.heap.size, 7, none⟩ = some (.int .u32 0) := HF6.out.cell 7
      have b8 : ((w3.alloc (.cells #[.int .u32 x, .int .u32 p, .int .u32 v, .int .u32 o, .int .u32 0, .string ⟨#[]⟩, .int .u32 0, .int .u32 0, .int .u32 0, .slice none 0 0, .slice Ab b.length cb] 28)).alloc (.cells #[.int .u32 x, .int .u32 p, .int .u32 v, .int .u32 o, .int .u32 0, .string m, .int .u32 s, .int .u32 u, .int .u32 g, .slice Ag gs.length cg, .slice Ab b.length cb] 28)).cell? ⟨w3.heap.size, 8, none⟩ = some (.int .u32 0) := HF6.out.cell 8
      have b9 : ((w3.alloc (.cells #[.int .u32 x, .int .u32 p, .int .u32 v, .int .u32 o, .int .u32 0, .string ⟨#[]⟩, .int .u32 0, .int .u32 0, .int .u32 0, .slice none 0 0, .slice Ab b.length cb] 28)).alloc (.cells #[.int .u32 x, .int .u32 p, .int .u32 v, .int .u32 o, .int .u32 0, .string m, .int .u32 s, .int .u32 u, .int .u32 g, .slice Ag gs.length cg, .slice Ab b.length cb] 28)).cell? ⟨w3.heap.size, 9, none⟩ = some (.slice none 0 0) := HF6.out.cell 9
      have b10 : ((w3.alloc (.cells #[.int .u32 x, .int .u32 p, .int .u32 v, .int .u32 o, .int .u32 0, .string ⟨#[]⟩, .int .u32 0, .int .u32 0, .int .u32 0, .slice none 0 0, .slice Ab b.length cb] 28)).alloc (.cells #[.int .u32 x, .int .u32 p, .int .u32 v, .int .u32 o, .int .u32 0, .string m, .int .u32 s, .int .u32 u, .int .u32 g, .slice Ag gs.length cg, .slice Ab b.length cb] 28)).cell? ⟨w3.heap.size, 10, none⟩ = some (.slice Ab b.length cb) := HF6.out.cell 10
      go_wp2_with fail
      clear q0 q1 q2 q3 q4 q5 q6 q7 q8 q9 q10
      clear b0 b1 b2 b3 b4 b5 b6 b7 b8 b9 b10
      clear y0 y1 y2 y3 y4 y5 y6 y7 y8 y9 y10
      clear g4 z4
      obtain ⟨w6, hw6⟩ : ∃ w6, ((w3.alloc (.cells #[.int .u32 x, .int .u32 p, .int .u32 v, .int .u32 o, .int .u32 0, .string ⟨#[]⟩, .int .u32 0, .int .u32 0, .int .u32 0, .slice none 0 0, .slice Ab b.length cb] 28)).alloc (.cells #[.int .u32 x, .int .u32 p, .int .u32 v, .int .u32 o, .int .u32 0, .string m, .int .u32 s, .int .u32 u, .int .u32 g, .slice Ag gs.length cg, .slice Ab b.length cb] 28)) = w6 := ⟨_, rfl⟩
      rw [hw6] at HE6 HS6 ⊢
      clear hw6 HE5 HF6 HS4 HS3
      obtain ⟨rb, hrb⟩ := bare_put HA.out
      obtain ⟨e7, he7⟩ : ∃ e7 : Int, (if b.length ≤ 65496 then (0 : Int) else 3) = e7 := ⟨_, rfl⟩
      have HE7 := Aside0.mk he7
      rw [he7] at hrb
      refine (calls_Put.calls x p v o 0 ⟨#[]⟩ 0 0 0 none 0 [] Ab cb b rb e7 w6 (Kd.C_nil _ _) (Nat.le_refl _) HS6.out.B HCB.out hrb).mono ?_
      rintro e w7 ⟨v7, rfl, ho7, hb7⟩
      obtain ⟨A7, c7, rfl, _⟩ := OB_reads ho7
      have HS7 := Aside0.mk (HS6.out.step hb7)
      have HE8 := Aside0.mk (show Blk11 w7 (w3.heap.size + 1) #[.int .u32 x, .int .u32 p, .int .u32 v, .int .u32 o, .int .u32 0, .string m, .int .u32 s, .int .u32 u, .int .u32 g, .slice Ag gs.length cg, .slice Ab b.length cb] from Call11.below (show Call11 w6 (w3.heap.size + 1) x p v o 0 m s u g (.slice Ag gs.length cg) (.slice Ab b.length cb) from HE6.out) hb7)
      clear hb7 ho7 HS6 HE6 he7
      have d0 : w7.cell? ⟨w3.heap.size + 1, 0, none⟩ = some (.int .u32 x) := HE8.out.cell 0
      have d1 : w7.cell? ⟨w3.heap.size + 1, 1, none⟩ = some (.int .u32 p) := HE8.out.cell 1
      have d2 : w7.cell? ⟨w3.heap.size + 1, 2, none⟩ = some (.int .u32 v) := HE8.out.cell 2
      have d3 : w7.cell? ⟨w3.heap.size + 1, 3, none⟩ = some (.int .u32 o) := HE8.out.cell 3
      have d4 : w7.cell? ⟨w3.heap.size + 1, 4, none⟩ = some (.int .u32 0) := HE8.out.cell 4
      have d5 : w7.cell? ⟨w3.heap.size + 1, 5, none⟩ = some (.string m) := HE8.out.cell 5
      have d6 : w7.cell? ⟨w3.heap.size + 1, 6, none⟩ = some (.int .u32 s) := HE8.out.cell 6
      have d7 : w7.cell? ⟨w3.heap.size + 1, 7, none⟩ = some (.int .u32 u) := HE8.out.cell 7
      have d8 : w7.cell? ⟨w3.heap.size + 1, 8, none⟩ = some (.int .u32 g) := HE8.out.cell 8
      have d9 : w7.cell? ⟨w3.heap.size + 1, 9, none⟩ = some (.slice Ag gs.length cg) := HE8.out.cell 9
      have d10 : w7.cell? ⟨w3.heap.size + 1, 10, none⟩ = some (.slice Ab b.length cb) := HE8.out.cell 10
      go_wp2_with fail
      clear d0 d1 d2 d3 d4 d5 d6 d7 d8 d9 d10
      have HTD := Aside0.mk hrb
      clear hrb
      obtain ⟨T, hT⟩ : ∃ T, toldB m s u g gs = T := ⟨_, rfl⟩
      have hd : ∃ rd, calls_Put.f x p v o 0 m s u g gs b = some (rd, if T = true then 1 else e7) := by
        cases T with
        | true => exact ⟨[], told_put HA.out hT⟩
        | false =>
          obtain ⟨rfl, rfl, rfl, rfl, rfl⟩ := untold hT
          exact ⟨rb, HTD.out⟩
      obtain ⟨rd, hrd⟩ := hd
      obtain ⟨e10, he10⟩ : ∃ e10 : Int, (if T = true then (1 : Int) else e7) = e10 := ⟨_, rfl⟩
      rw [he10] at hrd
      have HE10 := Aside0.mk he10
      clear he10
      have HT := Aside0.mk hT
      clear HTD hT
      refine (calls_Put.calls x p v o 0 m s u g Ag cg gs Ab cb b rd _ w7 HS7.out.G HCG.out HS7.out.B HCB.out hrd).mono ?_
      rintro e w8 ⟨v8, rfl, ho8, hb8⟩
      obtain ⟨A8, c8, rfl, _⟩ := OB_reads ho8
      have HS8 := Aside0.mk (HS7.out.step hb8)
      clear hb8 ho8 HS7 HE8 hrd
      have y0 : w8.cell? ⟨w.heap.size, 0, none⟩ = some (.int .u32 x) := HS8.out.blk.c0
      have y1 : w8.cell? ⟨w.heap.size, 1, none⟩ = some (.int .u32 p) := HS8.out.blk.c1
      have y2 : w8.cell? ⟨w.heap.size, 2, none⟩ = some (.int .u32 v) := HS8.out.blk.c2
      have y3 : w8.cell? ⟨w.heap.size, 3, none⟩ = some (.int .u32 o) := HS8.out.blk.c3
      have y4 : w8.cell? ⟨w.heap.size, 4, none⟩ = some (.int .u32 f) := HS8.out.blk.c4
      have y5 : w8.cell? ⟨w.heap.size, 5, none⟩ = some (.string m) := HS8.out.blk.c5
      have y6 : w8.cell? ⟨w.heap.size, 6, none⟩ = some (.int .u32 s) := HS8.out.blk.c6
      have y7 : w8.cell? ⟨w.heap.size, 7, none⟩ = some (.int .u32 u) := HS8.out.blk.c7
      have y8 : w8.cell? ⟨w.heap.size, 8, none⟩ = some (.int .u32 g) := HS8.out.blk.c8
      have y9 : w8.cell? ⟨w.heap.size, 9, none⟩ = some (.slice Ag gs.length cg) := HS8.out.blk.c9
      have y10 : w8.cell? ⟨w.heap.size, 10, none⟩ = some (.slice Ab b.length cb) := HS8.out.blk.c10
      obtain ⟨b1, hb1⟩ : ∃ b, m.toList.isEmpty = b := ⟨_, rfl⟩
      obtain ⟨b2, hb2⟩ : ∃ b, (s != 0) = b := ⟨_, rfl⟩
      obtain ⟨b3, hb3⟩ : ∃ b, (u != 0) = b := ⟨_, rfl⟩
      obtain ⟨b4, hb4⟩ : ∃ b, (g != 0) = b := ⟨_, rfl⟩
      have HTD : Aside0 (T = (!b1 || b2 || b3 || b4 || decide (0 < gs.length))) := ⟨by
        rw [← HT.out, ← hb1, ← hb2, ← hb3, ← hb4, toldE]
        unfold toldB
        have : (!(gs.length == 0)) = decide (0 < gs.length) := by
          cases hl : gs.length with
          | zero => rfl
          | succ n => simp
        rw [this]
        rfl⟩
      go_upto_region 11 with (fail)
      go_cut [11] (fun v11 wc => v11 = .bool T ∧ w8 = wc)
      case first =>
        cases b1 <;> cases b2 <;> cases b3 <;> cases b4
        all_goals
          go_wp2
          go_meet
          case rel => exact ⟨by rw [HTD.out]; rfl, rfl⟩
      case rest =>
        obtain ⟨rfl, rfl⟩ := hcut
        have y10 : w8.cell? ⟨w.heap.size, 10, none⟩ = some (.slice Ab b.length cb) := HS8.out.blk.c10
        have h10 := HE10.out
        have h7 := HE7.out
        cases T
        all_goals
          by_cases hbl : b.length ≤ 65496
          all_goals
            first | rw [if_pos hbl] at h7 | rw [if_neg hbl] at h7
            first | rw [if_pos rfl] at h10 | rw [if_neg (by decide)] at h10
            subst h7
            subst h10
            first | have hcl : decide ((b.length : Int) ≤ 65496) = true := decide_eq_true (by omega) | have hcl : decide ((b.length : Int) ≤ 65496) = false := decide_eq_false (by omega)
            clear hbl
            go_wp2
            go_ret
            exact ⟨rfl, HS8.out.be⟩

end Go.Proofs.Ytoalknneifpehaa.Hand
