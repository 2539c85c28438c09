import Derived.Test.YtoalknneifpehaaDoorT6g
import Derived.Test.YtoalknneifpehaaDoorR6g
namespace Go.Proofs.YtoalknneifpehaaDoor.Hand
open Go.RowKit Go.Proofs.YtoalknneifpehaaDoor.GB Go.Proofs.YtoalknneifpehaaDoor.GC Go.Proofs.YtoalknneifpehaaDoor.GQ Go.Proofs.YtoalknneifpehaaDoorW.PrintWords Go.Proofs.YtoalknneifpehaaDoorW.PrintLast Go.Proofs.YtoalknneifpehaaDoorW.PrintMore
set_option linter.unusedVariables false
set_option linter.unusedSimpArgs false

theorem sameCall_self (k : Nat) (x p v o f : Int) (m : ByteArray) (s u g : Int) (gs b : List Int) (hl : gs.length ≤ 1000000000) (hb : b.length ≤ 4611686018427387904) (hk : gs.length < k) (hk2 : b.length < k) : wharfingerlaw01_SameCall.f k x p v o f m s u g gs b x p v o f m s u g gs b = some true := by
  unfold wharfingerlaw01_SameCall.f
  rw [if_pos rfl, if_pos rfl, if_pos rfl, if_pos rfl, if_pos rfl, if_pos rfl, if_pos rfl, sameCred_self k u g gs hl hk, Option.bind_some, if_pos rfl, same_self k b hb hk2]
  rfl
theorem callG_small {l : List Int} (hb : byteOk l = true) : (callG l).gs.length ≤ 16 ∧ (callG l).b.length ≤ 65536 := by
  rcases cget_cases hb with ⟨e, he, _⟩ | ⟨x, p, v, o, f, m, s, u, g, gs, b, he, hok, hl, _, hm⟩
  · rw [he]; exact ⟨by show (0 : Nat) ≤ 16; omega, by show (0 : Nat) ≤ 65536; omega⟩
  · rw [he]
    refine ⟨hok.small.2, ?_⟩
    show b.length ≤ 65536
    rw [hl, List.length_append] at hm
    omega
/-- A call that was answered, in a variable. -/
structure DQ (w0 w : World) (K : Nat) (R : CallR) (A : Option Addr) (c : Nat) (B : Option Addr) (d : Nat) : Prop where
  y : Call11 w K R.x R.p R.v R.o R.f R.m R.s R.u R.g (.slice A R.gs.length c) (.slice B R.b.length d)
  og : w.ownsRow w0.heap.size 22 1 (.slice A R.gs.length c) R.gs.length (nums .u32 R.gs)
  ob : w.ownsRow w0.heap.size 5 1 (.slice B R.b.length d) R.b.length (nums .u8 R.b)
  rg : Kd.C (Kd.int .u32) w A R.gs.length R.gs
  rb : Kd.C (Kd.int .u8) w B R.b.length R.b
  cg : R.gs.length ≤ c
  cb : R.b.length ≤ d
theorem DQ.step {w0 w w1 : World} {K : Nat} {R : CallR} {A : Option Addr} {c : Nat} {B : Option Addr} {d : Nat} (h : DQ w0 w K R A c B d) (hb : Below w.heap.size w w1) : DQ w0 w1 K R A c B d :=
  ⟨h.y.below hb, pw_own_below h.og hb, pw_own_below h.ob hb, Kd.C_below h.rg hb, Kd.C_below h.rb hb, h.cg, h.cb⟩
theorem DQ.new {w0 w w1 : World} {R : CallR} {A : Option Addr} {c : Nat} {B : Option Addr} {d : Nat} (hg : Kd.R (Kd.int .u32) 22 w1 w.heap.size (fun _ => True) (.slice A R.gs.length c) R.gs) (hb : Kd.R (Kd.int .u8) 5 w1 w.heap.size (fun _ => True) (.slice B R.b.length d) R.b) (hB : w0.heap.size ≤ w.heap.size) :
    DQ w0 (w1.alloc (.cells #[.int .u32 R.x, .int .u32 R.p, .int .u32 R.v, .int .u32 R.o, .int .u32 R.f, .string R.m, .int .u32 R.s, .int .u32 R.u, .int .u32 R.g, .slice A R.gs.length c, .slice B R.b.length d] 28)) w1.heap.size R A c B d := by
  have h := below_alloc (Below.refl w1.heap.size w1) (.cells #[.int .u32 R.x, .int .u32 R.p, .int .u32 R.v, .int .u32 R.o, .int .u32 R.f, .string R.m, .int .u32 R.s, .int .u32 R.u, .int .u32 R.g, .slice A R.gs.length c, .slice B R.b.length d] 28)
  obtain ⟨_, h1, h2⟩ := Kd.R_reads' hg
  obtain ⟨_, h3, h4⟩ := Kd.R_reads' hb
  exact ⟨call11_new w1 _ _ _ _ _ _ _ _ _ _ _, pw_own_below (rowN_of hg hB) h, pw_own_below (row_of hb hB) h, Kd.C_below h2 h, Kd.C_below h4 h, h1, h3⟩
set_option maxHeartbeats 8000000 in
set_option maxRecDepth 100000 in
theorem callsGets_calls (A : Option Addr) (c : Nat) (l : List Int) (w : World) (hR : Kd.C (Kd.int .u8) w A l.length l) (hc : l.length ≤ c) (hb : byteOk l = true) :
    Calls Tryd.prog 4 #[.slice A l.length c] w fun e w' => e = .returned (.bool true) ∧ Below w.heap.size w w' := by
  have HR := Aside0.mk hR
  have HC := Aside0.mk hc
  clear hR hc
  by_cases hbig : (l.length : Int) > 200000
  · have q1 : decide ((l.length : Int) > 200000) = true := decide_eq_true hbig
    clear hbig
    go_enter Tryd.func4, Tryd.ntmps4
    go_wp2
    go_ret
    exact ⟨rfl, Below.refl _ _⟩
  · have q1 : decide ((l.length : Int) > 200000) = false := decide_eq_false hbig
    have HLL := Aside0.mk (show l.length ≤ 2000000 ∧ l.length ≤ 100000000 by omega)
    have hsm := callG_small hb
    have HF := Aside0.mk (fun (A : Option Addr) (c : Nat) (W : World) (h : RB W A l) (hc : l.length ≤ c) => ref06_Get_calls A c l W h hc hb)
    have hgf : calls_Get.f l = some ((callG l).x, (callG l).p, (callG l).v, (callG l).o, (callG l).f, (callG l).m, (callG l).s, (callG l).u, (callG l).g, (callG l).gs, (callG l).b, (callG l).e) := by unfold calls_Get.f; rw [if_pos hb]
    obtain ⟨R, hRR⟩ : ∃ R, callG l = R := ⟨_, rfl⟩
    rw [hRR] at hsm hgf
    simp only [hRR] at HF
    have HGF := Aside0.mk hgf
    have HSM := Aside0.mk hsm
    have HSX := Aside0.mk (sameCall_self 70000 R.x R.p R.v R.o R.f R.m R.s R.u R.g R.gs R.b (by omega) (by omega) (by omega) (by omega))
    have ce : (R.e != R.e) = false := by simp
    clear hbig hb hsm hgf hRR
    go_enter Tryd.func4, Tryd.ntmps4
    go_wp2_with fail
    clear q1
    refine (twinBytes_calls A c l _ HR.out HC.out HLL.out.1).mono ?_
    rintro e w4 ⟨A4, c4, rfl, hc4, ho4, hb4⟩
    have HD4 := Aside0.mk (show DW w w4 A l A4 c4 from ⟨hb4, Kd.C_below HR.out hb4, (Kd.R_reads' ho4).2.2, row_twin ho4 (Nat.le_refl _)⟩)
    have HC4 := Aside0.mk hc4
    clear ho4 hb4 hc4
    go_wp2_with fail
    refine (calls_Get.calls A4 c4 l R.x R.p R.v R.o R.f R.m R.s R.u R.g R.gs R.b R.e _ (front_ HD4.out.t) (Nat.le_of_lt HC4.out) HGF.out).mono ?_
    rintro e w5 ⟨vg5, vb5, rfl, hg5, ho5, hb5⟩
    obtain ⟨G5, g5, rfl, _⟩ := Kd.R_reads hg5
    obtain ⟨B5, d5, rfl, _⟩ := Kd.R_reads ho5
    have FT_5 := Aside0.mk (later_than HD4.out.o (Kd.own_of_R ho5) (Nat.le_refl _))
    have hq5 := DQ.new (w0 := w) hg5 ho5 HD4.out.b.size
    have hbk5 := below_then hb5 hb5.size (below_alloc (Below.refl w5.heap.size w5) (.cells #[.int .u32 R.x, .int .u32 R.p, .int .u32 R.v, .int .u32 R.o, .int .u32 R.f, .string R.m, .int .u32 R.s, .int .u32 R.u, .int .u32 R.g, .slice G5 R.gs.length g5, .slice B5 R.b.length d5] 28))
    obtain ⟨w6, hw6⟩ : ∃ w6, w5.alloc (.cells #[.int .u32 R.x, .int .u32 R.p, .int .u32 R.v, .int .u32 R.o, .int .u32 R.f, .string R.m, .int .u32 R.s, .int .u32 R.u, .int .u32 R.g, .slice G5 R.gs.length g5, .slice B5 R.b.length d5] 28) = w6 := ⟨_, rfl⟩
    rw [hw6] at hq5 hbk5
    have HD6 := Aside0.mk (HD4.out.step hbk5)
    have HQ5_6 := Aside0.mk hq5
    have HW6 := Aside0.mk hw6
    clear hg5 ho5 hb5 hq5 hbk5 hw6 HD4
    go_wp2_with fail
    rw [HW6.out]
    refine (calls_Get.calls A4 c4 l R.x R.p R.v R.o R.f R.m R.s R.u R.g R.gs R.b R.e _ (front_ HD6.out.t) (Nat.le_of_lt HC4.out) HGF.out).mono ?_
    rintro e w7 ⟨vg7, vb7, rfl, hg7, ho7, hb7⟩
    obtain ⟨G7, g7, rfl, _⟩ := Kd.R_reads hg7
    obtain ⟨B7, d7, rfl, _⟩ := Kd.R_reads ho7
    have FB5_7 := Aside0.mk (later_than HQ5_6.out.ob (Kd.own_of_R ho7) (Nat.le_refl _))
    have FG5_7 := Aside0.mk (later_than HQ5_6.out.og (Kd.own_of_R hg7) (Nat.le_refl _))
    have FT_7 := Aside0.mk (later_than HD6.out.o (Kd.own_of_R ho7) (Nat.le_refl _))
    have hq7 := DQ.new (w0 := w) hg7 ho7 HD6.out.b.size
    have hbk7 := below_then hb7 hb7.size (below_alloc (Below.refl w7.heap.size w7) (.cells #[.int .u32 R.x, .int .u32 R.p, .int .u32 R.v, .int .u32 R.o, .int .u32 R.f, .string R.m, .int .u32 R.s, .int .u32 R.u, .int .u32 R.g, .slice G7 R.gs.length g7, .slice B7 R.b.length d7] 28))
    obtain ⟨w8, hw8⟩ : ∃ w8, w7.alloc (.cells #[.int .u32 R.x, .int .u32 R.p, .int .u32 R.v, .int .u32 R.o, .int .u32 R.f, .string R.m, .int .u32 R.s, .int .u32 R.u, .int .u32 R.g, .slice G7 R.gs.length g7, .slice B7 R.b.length d7] 28) = w8 := ⟨_, rfl⟩
    rw [hw8] at hq7 hbk7
    have HD8 := Aside0.mk (HD6.out.step hbk7)
    have HQ5_8 := Aside0.mk (HQ5_6.out.step hbk7)
    have HQ7_8 := Aside0.mk hq7
    have HW8 := Aside0.mk hw8
    clear hg7 ho7 hb7 hq7 hbk7 hw8 HD6 HQ5_6
    go_wp2_with fail
    rw [HW8.out]
    refine (HF.out A c _ HD8.out.r HC.out).mono ?_
    rintro e w9 ⟨vg9, vb9, rfl, hg9, ho9, hb9⟩
    obtain ⟨G9, g9, rfl, _⟩ := Kd.R_reads hg9
    obtain ⟨B9, d9, rfl, _⟩ := Kd.R_reads ho9
    have FB5_9 := Aside0.mk (later_than HQ5_8.out.ob (Kd.own_of_R ho9) (Nat.le_refl _))
    have FG5_9 := Aside0.mk (later_than HQ5_8.out.og (Kd.own_of_R hg9) (Nat.le_refl _))
    have FB7_9 := Aside0.mk (later_than HQ7_8.out.ob (Kd.own_of_R ho9) (Nat.le_refl _))
    have FG7_9 := Aside0.mk (later_than HQ7_8.out.og (Kd.own_of_R hg9) (Nat.le_refl _))
    have FT_9 := Aside0.mk (later_than HD8.out.o (Kd.own_of_R ho9) (Nat.le_refl _))
    have hq9 := DQ.new (w0 := w) hg9 ho9 HD8.out.b.size
    have hbk9 := below_then hb9 hb9.size (below_alloc (Below.refl w9.heap.size w9) (.cells #[.int .u32 R.x, .int .u32 R.p, .int .u32 R.v, .int .u32 R.o, .int .u32 R.f, .string R.m, .int .u32 R.s, .int .u32 R.u, .int .u32 R.g, .slice G9 R.gs.length g9, .slice B9 R.b.length d9] 28))
    obtain ⟨w10, hw10⟩ : ∃ w10, w9.alloc (.cells #[.int .u32 R.x, .int .u32 R.p, .int .u32 R.v, .int .u32 R.o, .int .u32 R.f, .string R.m, .int .u32 R.s, .int .u32 R.u, .int .u32 R.g, .slice G9 R.gs.length g9, .slice B9 R.b.length d9] 28) = w10 := ⟨_, rfl⟩
    rw [hw10] at hq9 hbk9
    have HD10 := Aside0.mk (HD8.out.step hbk9)
    have HQ5_10 := Aside0.mk (HQ5_8.out.step hbk9)
    have HQ7_10 := Aside0.mk (HQ7_8.out.step hbk9)
    have HQ9_10 := Aside0.mk hq9
    have HW10 := Aside0.mk hw10
    clear hg9 ho9 hb9 hq9 hbk9 hw10 HD8 HQ5_8 HQ7_8
    obtain ⟨y0, y1, y2, y3, y4, y5, y6, y7, y8, y9, y10⟩ := HQ5_10.out.y.all
    obtain ⟨k0, k1, k2, k3, k4, k5, k6, k7, k8, k9, k10⟩ := HQ9_10.out.y.all
    rw [← HW10.out] at y0 k0 y1 k1 y2 k2 y3 k3 y4 k4 y5 k5 y6 k6 y7 k7 y8 k8 y9 k9 y10 k10
    go_wp2_with fail
    rw [HW10.out]
    clear y0 k0 y1 k1 y2 k2 y3 k3 y4 k4 y5 k5 y6 k6 y7 k7 y8 k8 y9 k9 y10 k10
    refine (wharfingerlaw01_SameCall.calls 70000 R.x R.p R.v R.o R.f R.m R.s R.u R.g _ _ R.gs _ _ R.b R.x R.p R.v R.o R.f R.m R.s R.u R.g _ _ R.gs _ _ R.b true _ HQ5_10.out.rg HQ5_10.out.cg HQ5_10.out.rb HQ5_10.out.cb HQ9_10.out.rg HQ9_10.out.cg HQ9_10.out.rb HQ9_10.out.cb HSX.out).mono ?_
    rintro e w11 ⟨rfl, hbx⟩
    have HD11 := Aside0.mk (HD10.out.step hbx)
    have HQ5_11 := Aside0.mk (HQ5_10.out.step hbx)
    have HQ7_11 := Aside0.mk (HQ7_10.out.step hbx)
    have HQ9_11 := Aside0.mk (HQ9_10.out.step hbx)
    clear HD10 HQ5_10 HQ7_10 HQ9_10 hbx
    obtain ⟨y0, y1, y2, y3, y4, y5, y6, y7, y8, y9, y10⟩ := HQ7_11.out.y.all
    obtain ⟨k0, k1, k2, k3, k4, k5, k6, k7, k8, k9, k10⟩ := HQ9_11.out.y.all
    go_wp2_with fail
    clear y0 k0 y1 k1 y2 k2 y3 k3 y4 k4 y5 k5 y6 k6 y7 k7 y8 k8 y9 k9 y10 k10
    refine (wharfingerlaw01_SameCall.calls 70000 R.x R.p R.v R.o R.f R.m R.s R.u R.g _ _ R.gs _ _ R.b R.x R.p R.v R.o R.f R.m R.s R.u R.g _ _ R.gs _ _ R.b true _ HQ7_11.out.rg HQ7_11.out.cg HQ7_11.out.rb HQ7_11.out.cb HQ9_11.out.rg HQ9_11.out.cg HQ9_11.out.rb HQ9_11.out.cb HSX.out).mono ?_
    rintro e w12 ⟨rfl, hbx⟩
    have HD12 := Aside0.mk (HD11.out.step hbx)
    have HQ5_12 := Aside0.mk (HQ5_11.out.step hbx)
    have HQ7_12 := Aside0.mk (HQ7_11.out.step hbx)
    have HQ9_12 := Aside0.mk (HQ9_11.out.step hbx)
    clear HD11 HQ5_11 HQ7_11 HQ9_11 hbx
    go_wp2_with fail
    refine (leftBytes_calls A4 c4 A c l _ HD12.out.t HC4.out HD12.out.r HC.out HLL.out.1).mono ?_
    rintro e w13 ⟨rfl, hdr⟩
    have hbx : Below w12.heap.size w12 w13 := Drawn0.below hdr
    have HD13 := Aside0.mk (HD12.out.step hbx)
    have HQ5_13 := Aside0.mk (HQ5_12.out.step hbx)
    have HQ7_13 := Aside0.mk (HQ7_12.out.step hbx)
    have HQ9_13 := Aside0.mk (HQ9_12.out.step hbx)
    clear HD12 HQ5_12 HQ7_12 HQ9_12 hbx hdr
    have HLB := Aside0.mk (show R.b.length ≤ 100000000 ∧ R.gs.length ≤ 100000000 by have := HSM.out; omega)
    have HBK := Aside0.mk (book_new (ns := [ent G5 R.gs.length g5 2, ent G7 R.gs.length g7 4]) (bs := [ent A4 l.length c4 1, ent B5 R.b.length d5 3, ent B7 R.b.length d7 5]) HD13.out.b (rows3 HD13.out.o HQ5_13.out.ob HQ7_13.out.ob) (rowsN2 HQ5_13.out.og HQ7_13.out.og) (far3 FT_5.out FT_7.out FB5_7.out) (farN_of (far2 FG5_7.out)) (nb3 HLL.out.2 HLB.out.1 HLB.out.1 (by decide) (by decide) (by decide)) (nb2 HLB.out.2 HLB.out.2 (by decide) (by decide)) (len_le3 _ _ _) (len_le2 _ _))
    have HYA := Aside0.mk (HQ5_13.out.y.below (below_alloc (Below.refl w13.heap.size w13) (.cells #[.int .i64 0, .slice none 0 0, .slice none 0 0, .slice none 0 0, .slice none 0 0, .slice none 0 0, .slice none 0 0, .slice none 0 0] 44)))
    have HYB := Aside0.mk (HQ7_13.out.y.below (below_alloc (Below.refl w13.heap.size w13) (.cells #[.int .i64 0, .slice none 0 0, .slice none 0 0, .slice none 0 0, .slice none 0 0, .slice none 0 0, .slice none 0 0, .slice none 0 0] 44)))
    go_wp2_with fail
    refine (bytes_keep2 w _ _ 0 0 0 [ent A4 l.length c4 1, ent B5 R.b.length d5 3, ent B7 R.b.length d7 5] [ent G5 R.gs.length g5 2, ent G7 R.gs.length g7 4] A4 l.length c4 HBK.out (lt03 _ _ _) rfl (by decide) (by decide)).mono ?_
    rintro e wk0 ⟨rfl, hs0⟩
    have HS0_ := Aside0.mk hs0.1
    have HYA0 := Aside0.mk (HYA.out.kept hs0.2)
    have HYB0 := Aside0.mk (HYB.out.kept hs0.2)
    clear hs0 HBK HYA HYB
    obtain ⟨y0, y1, y2, y3, y4, y5, y6, y7, y8, y9, y10⟩ := HYA0.out.all
    go_wp2_with fail
    clear y0 y1 y2 y3 y4 y5 y6 y7 y8 y9 y10
    refine (call_keep2 w _ _ (0 + 1) (0 + 1) 0 [ent A4 l.length c4 1, ent B5 R.b.length d5 3, ent B7 R.b.length d7 5] [ent G5 R.gs.length g5 2, ent G7 R.gs.length g7 4] R.x R.p R.v R.o R.f R.m R.s R.u R.g G5 R.gs.length g5 B5 R.b.length d5 HS0_.out (lt02 _ _) rfl (lt13 _ _ _) rfl (by decide) (by decide)).mono ?_
    rintro e wk1 ⟨rfl, hs1⟩
    have HS1_ := Aside0.mk hs1.1
    have HYB1 := Aside0.mk (HYB0.out.kept hs1.2)
    clear hs1 HS0_ HYA0 HYB0
    obtain ⟨y0, y1, y2, y3, y4, y5, y6, y7, y8, y9, y10⟩ := HYB1.out.all
    go_wp2_with fail
    clear y0 y1 y2 y3 y4 y5 y6 y7 y8 y9 y10
    refine (call_keep2 w _ _ (0 + 1 + 1 + 1) (0 + 1 + 1) (0 + 1) [ent A4 l.length c4 1, ent B5 R.b.length d5 3, ent B7 R.b.length d7 5] [ent G5 R.gs.length g5 2, ent G7 R.gs.length g7 4] R.x R.p R.v R.o R.f R.m R.s R.u R.g G7 R.gs.length g7 B7 R.b.length d7 HS1_.out (lt12 _ _) rfl (lt23 _ _ _) rfl (by decide) (by decide)).mono ?_
    rintro e wk2 ⟨rfl, hs2⟩
    have HS2_ := Aside0.mk hs2.1
    clear hs2 HS1_ HYB1
    go_wp2_with fail
    refine (apart_calls w _ _ _ [ent A4 l.length c4 1, ent B5 R.b.length d5 3, ent B7 R.b.length d7 5] [ent G5 R.gs.length g5 2, ent G7 R.gs.length g7 4] HS2_.out).mono ?_
    rintro e wz ⟨rfl, hbz⟩
    go_wp2
    go_ret
    exact ⟨rfl, hbz⟩
end Go.Proofs.YtoalknneifpehaaDoor.Hand
