import Derived.Test.YtgodigappobicaaDoorNB
import Derived.Test.YtgodigappobicaaDoorR2
import Derived.Test.YtgodigappobicaaDoorT1
namespace Go.Proofs.YtgodigappobicaaDoor.Hand
open Go.RowKit Go.Proofs.YtgodigappobicaaDoor.GB Go.Proofs.YtgodigappobicaaDoorW.PrintWords Go.Proofs.YtgodigappobicaaDoorW.PrintLast Go.Proofs.YtgodigappobicaaDoorW.PrintMore
set_option linter.unusedVariables false
set_option linter.unusedSimpArgs false

theorem byte_front {w : World} {A : Option Addr} {l : List Int} {x : Int} (h : Kd.C (Kd.int .u8) w A (l ++ [x]).length (l ++ [x])) : Kd.C (Kd.int .u8) w A l.length l := by
  have := Kd.C_take h (m := l.length) (by rw [List.length_append]; omega)
  rwa [List.take_left] at this
theorem oget_some {l : List Int} (most : Int) (hb : byteOk l = true) : ∃ xs n e, opaque_Get.f l most = some (xs, n, e) ∧ xs.length ≤ l.length := by
  rcases get_again l most hb with ⟨e, _, he⟩ | ⟨xs, n, he, hn, _, hp, _⟩
  · exact ⟨_, _, _, he, Nat.zero_le _⟩
  · refine ⟨_, _, _, he, ?_⟩
    have h1 := congrArg List.length hp
    rw [putL_length, List.length_take] at h1
    omega
theorem ofix_some (l : List Int) (n : Int) : ∃ xs m e, opaque_GetFixed.f l n = some (xs, m, e) ∧ xs.length ≤ l.length := by
  unfold opaque_GetFixed.f
  by_cases h0 : n < 0
  · rw [if_pos h0]; exact ⟨_, _, _, rfl, Nat.zero_le _⟩
  · rw [if_neg h0]
    by_cases h1 : 65536 < n
    · rw [if_pos h1]; exact ⟨_, _, _, rfl, Nat.zero_le _⟩
    · rw [if_neg h1]
      by_cases h2 : cutS l n.toNat = 0
      · rw [if_pos h2]; exact ⟨_, _, _, rfl, by rw [List.length_take]; omega⟩
      · rw [if_neg h2]; exact ⟨_, _, _, rfl, Nat.zero_le _⟩

/-- What is carried through a law on bytes: the bytes, and their copy with a mark. -/
structure DW (w0 w : World) (A : Option Addr) (l : List Int) (A4 : Option Addr) (c4 : Nat) : Prop where
  b : Below w0.heap.size w0 w
  r : Kd.C (Kd.int .u8) w A l.length l
  t : Kd.C (Kd.int .u8) w A4 (l ++ [77]).length (l ++ [77])
  o : w.ownsRow w0.heap.size 5 1 (.slice A4 l.length c4) l.length (nums .u8 l)
theorem DW.step {w0 w w1 : World} {A : Option Addr} {l : List Int} {A4 : Option Addr} {c4 : Nat} (h : DW w0 w A l A4 c4) (hb : Below w.heap.size w w1) : DW w0 w1 A l A4 c4 :=
  ⟨below_then h.b h.b.size hb, Kd.C_below h.r hb, Kd.C_below h.t hb, pw_own_below h.o hb⟩
/-- A row that was answered. -/
structure DX (w0 w : World) (A : Option Addr) (c : Nat) (xs : List Int) : Prop where
  o : w.ownsRow w0.heap.size 5 1 (.slice A xs.length c) xs.length (nums .u8 xs)
  r : Kd.C (Kd.int .u8) w A xs.length xs
  c : xs.length ≤ c
theorem DX.step {w0 w w1 : World} {A : Option Addr} {c : Nat} {xs : List Int} (h : DX w0 w A c xs) (hb : Below w.heap.size w w1) : DX w0 w1 A c xs :=
  ⟨pw_own_below h.o hb, Kd.C_below h.r hb, h.c⟩
theorem DX.new {w0 w w1 : World} {A : Option Addr} {c : Nat} {xs : List Int} (h : OB w1 w.heap.size (.slice A xs.length c) xs) (hB : w0.heap.size ≤ w.heap.size) (hc : xs.length ≤ c) (hr : RB w1 A xs) : DX w0 w1 A c xs :=
  ⟨row_of h hB, hr, hc⟩
set_option maxHeartbeats 4000000 in
set_option maxRecDepth 100000 in
theorem wharfingerlaw02_OpaquePuts.calls (A : Option Addr) (c : Nat) (l : List Int) (n : Int) (w : World) (hR : Kd.C (Kd.int .u8) w A l.length l) (hc : l.length ≤ c) (hl : l.length ≤ 140737488351232) (hn : n ≤ 9223372036854775807) :
    Calls Tryd.prog 3 #[.slice A l.length c, .int .i64 n] w fun e w' => e = .returned (.bool true) ∧ Below w.heap.size w w' := by
  have HR := Aside0.mk hR
  have HC := Aside0.mk hc
  have HN0 := Aside0.mk (show ∀ x ∈ [(l.length : Int)], 0 ≤ x by simp)
  have HS0 := Aside0.mk (show [(l.length : Int)].sum < 4611686018427387904 by simp; omega)
  clear hR hc
  by_cases hbig : (l.length : Int) > 1048576
  · have HBY := Aside0.mk (show decide ([(l.length : Int)].sum > 1048576) = true by simpa using hbig)
    clear hbig
    go_enter Tryd.func3, Tryd.ntmps3
    go_wp2_with fail
    refine (beyond_calls [(l.length : Int)] true _ 1 _ (lit_readsK .i64 _ _ _ _ _ rfl (by simp)) (by simp) HN0.out (by simp) HS0.out HBY.out).mono ?_
    rintro e w2 ⟨rfl, ⟨nd, rfl⟩⟩
    go_wp2
    go_ret
    exact ⟨rfl, pw_below_drewN (below_alloc (Below.refl _ _) _) _⟩
  · have HBY := Aside0.mk (show decide ([(l.length : Int)].sum > 1048576) = false by simpa using hbig)
    have hl2 : l.length ≤ 1048576 := by omega
    have HLB := Aside0.mk (show l.length ≤ 100000000 by omega)
    have HPF := Aside0.mk (put_f l (by omega))
    have HQF := Aside0.mk (putFixed_f l (by omega))
    obtain ⟨x, hx⟩ : ∃ x, putL l = x := ⟨_, rfl⟩
    obtain ⟨y, hy⟩ : ∃ y, padded l = y := ⟨_, rfl⟩
    have HXL := Aside0.mk (show x.length ≤ 100000000 by have := putL_length l; have := padI_range l.length; rw [← hx]; omega)
    have HYL := Aside0.mk (show y.length ≤ 100000000 by have := padI_range l.length; rw [← hy, padded_length]; omega)
    have HSX := Aside0.mk (same_self (x.length + 1) x (by have := HXL.out; omega) (by omega))
    have HSY := Aside0.mk (same_self (y.length + 1) y (by have := HYL.out; omega) (by omega))
    have HRP : Aside0 (∀ W, RB W A l → Calls Tryd.prog 11 #[.slice A l.length c] W fun e w' => ∃ v, e = .returned v ∧ OB w' W.heap.size v x ∧ Below W.heap.size W w') := ⟨fun W hW => hx ▸ ref02_Put_calls A c l W hW HC.out (by omega)⟩
    have HRF : Aside0 (∀ W, RB W A l → Calls Tryd.prog 12 #[.slice A l.length c] W fun e w' => ∃ v, e = .returned v ∧ OB w' W.heap.size v y ∧ Below W.heap.size W w') := ⟨fun W hW => hy ▸ ref02_PutFixed_calls A c l W hW HC.out (by omega)⟩
    rw [hx] at HPF
    rw [hy] at HQF
    obtain ⟨pd, hpd⟩ : ∃ p, padI n = p := ⟨_, rfl⟩
    have HPD := Aside0.mk (show opaque_Pad.f n = some pd by unfold opaque_Pad.f; rw [hpd])
    have HRD : Aside0 (∀ W, Calls Tryd.prog 14 #[.int .i64 n] W fun e w' => e = .returned (.int .i64 pd) ∧ W = w') := ⟨fun W => hpd ▸ ref02_Pad_calls n W hn⟩
    have cpd : (pd != pd) = false := by simp
    clear hbig hl hx hy hpd hn
    go_enter Tryd.func3, Tryd.ntmps3
    go_wp2_with fail
    refine (beyond_calls [(l.length : Int)] false _ 1 _ (lit_readsK .i64 _ _ _ _ _ rfl (by simp)) (by simp) HN0.out (by simp) HS0.out HBY.out).mono ?_
    rintro e w2 ⟨rfl, ⟨nd, rfl⟩⟩
    have hb2 : Below w.heap.size w ((w.alloc (.cells (nums .i64 [(l.length : Int)]).toArray 3)).drewN nd) := pw_below_drewN (below_alloc (Below.refl _ _) _) _
    obtain ⟨w3, hw3⟩ : ∃ w3, (w.alloc (.cells (nums .i64 [(l.length : Int)]).toArray 3)).drewN nd = w3 := ⟨_, rfl⟩
    rw [hw3] at hb2
    have HB2 := Aside0.mk hb2
    have HR2 := Aside0.mk (Kd.C_below HR.out hb2)
    rw [hw3]
    clear hb2 hw3
    go_wp2_with fail
    refine (twinBytes_calls A c l _ HR2.out HC.out (by omega)).mono ?_
    rintro e w4 ⟨A4, c4, rfl, hc4, ho4, hb4⟩
    have HB4 := Aside0.mk (below_then HB2.out HB2.out.size hb4)
    have HR4 := Aside0.mk (Kd.C_below HR2.out hb4)
    have HT4 := Aside0.mk (show Kd.C (Kd.int .u8) w4 A4 (l ++ [77]).length (l ++ [77]) from (Kd.R_reads' ho4).2.2)
    have HC4 := Aside0.mk hc4
    have HO4 := Aside0.mk (row_twin ho4 HB2.out.size)
    clear ho4 hb4 HR2 HB2 hc4
    have HD4 := Aside0.mk (show DW w w4 A l A4 c4 from ⟨HB4.out, HR4.out, HT4.out, HO4.out⟩)
    clear HB4 HR4 HT4 HO4
    go_wp2_with fail
    refine (opaque_Put.calls A4 c4 l x _ (byte_front HD4.out.t) (Nat.le_of_lt HC4.out) HPF.out).mono ?_
    rintro e w5 ⟨v5, rfl, ho5, hb5⟩
    have hbb5 : Below w4.heap.size w4 w5 := hb5
    obtain ⟨A5, c5, rfl, hc5, hR5⟩ := OB_reads ho5
    have FT_5 := Aside0.mk (later_than HD4.out.o (Kd.own_of_R ho5) (Nat.le_refl _))
    have HX5_5 := Aside0.mk (DX.new (w0 := w) ho5 HD4.out.b.size hc5 hR5)
    have HD5 := Aside0.mk (HD4.out.step hbb5)
    clear hbb5 HD4 hb5 ho5 hc5 hR5
    go_wp2_with fail
    refine (opaque_PutFixed.calls A4 c4 l y _ (byte_front HD5.out.t) (Nat.le_of_lt HC4.out) HQF.out).mono ?_
    rintro e w6 ⟨v6, rfl, ho6, hb6⟩
    have hbb6 : Below w5.heap.size w5 w6 := hb6
    obtain ⟨A6, c6, rfl, hc6, hR6⟩ := OB_reads ho6
    have F5_6 := Aside0.mk (later_than HX5_5.out.o (Kd.own_of_R ho6) (Nat.le_refl _))
    have FT_6 := Aside0.mk (later_than HD5.out.o (Kd.own_of_R ho6) (Nat.le_refl _))
    have HX6_6 := Aside0.mk (DX.new (w0 := w) ho6 HD5.out.b.size hc6 hR6)
    have HD6 := Aside0.mk (HD5.out.step hbb6)
    have HX5_6 := Aside0.mk (HX5_5.out.step hbb6)
    clear hbb6 HD5 HX5_5 hb6 ho6 hc6 hR6
    go_wp2_with fail
    refine (HRP.out _ HD6.out.r).mono ?_
    rintro e w7 ⟨v7, rfl, ho7, hb7⟩
    have hbb7 : Below w6.heap.size w6 w7 := hb7
    obtain ⟨A7, c7, rfl, hc7, hR7⟩ := OB_reads ho7
    have F5_7 := Aside0.mk (later_than HX5_6.out.o (Kd.own_of_R ho7) (Nat.le_refl _))
    have F6_7 := Aside0.mk (later_than HX6_6.out.o (Kd.own_of_R ho7) (Nat.le_refl _))
    have FT_7 := Aside0.mk (later_than HD6.out.o (Kd.own_of_R ho7) (Nat.le_refl _))
    have HX7_7 := Aside0.mk (DX.new (w0 := w) ho7 HD6.out.b.size hc7 hR7)
    have HD7 := Aside0.mk (HD6.out.step hbb7)
    have HX5_7 := Aside0.mk (HX5_6.out.step hbb7)
    have HX6_7 := Aside0.mk (HX6_6.out.step hbb7)
    clear hbb7 HD6 HX5_6 HX6_6 hb7 ho7 hc7 hR7
    go_wp2_with fail
    refine (wharfingerlaw01_SameBytes.calls (x.length + 1) _ _ x _ _ x true _ HX5_7.out.r HX5_7.out.c HX7_7.out.r HX7_7.out.c HSX.out).mono ?_
    rintro e w8 ⟨rfl, ⟨hdr8⟩⟩
    have hbb8 : Below w7.heap.size w7 w8 := (Drawn0.below ⟨hdr8⟩)
    have HD8 := Aside0.mk (HD7.out.step hbb8)
    have HX5_8 := Aside0.mk (HX5_7.out.step hbb8)
    have HX6_8 := Aside0.mk (HX6_7.out.step hbb8)
    have HX7_8 := Aside0.mk (HX7_7.out.step hbb8)
    clear hbb8 hdr8 HD7 HX5_7 HX6_7 HX7_7
    go_wp2_with fail
    refine (HRF.out _ HD8.out.r).mono ?_
    rintro e w9 ⟨v9, rfl, ho9, hb9⟩
    have hbb9 : Below w8.heap.size w8 w9 := hb9
    obtain ⟨A9, c9, rfl, hc9, hR9⟩ := OB_reads ho9
    have F5_9 := Aside0.mk (later_than HX5_8.out.o (Kd.own_of_R ho9) (Nat.le_refl _))
    have F6_9 := Aside0.mk (later_than HX6_8.out.o (Kd.own_of_R ho9) (Nat.le_refl _))
    have F7_9 := Aside0.mk (later_than HX7_8.out.o (Kd.own_of_R ho9) (Nat.le_refl _))
    have FT_9 := Aside0.mk (later_than HD8.out.o (Kd.own_of_R ho9) (Nat.le_refl _))
    have HX9_9 := Aside0.mk (DX.new (w0 := w) ho9 HD8.out.b.size hc9 hR9)
    have HD9 := Aside0.mk (HD8.out.step hbb9)
    have HX5_9 := Aside0.mk (HX5_8.out.step hbb9)
    have HX6_9 := Aside0.mk (HX6_8.out.step hbb9)
    have HX7_9 := Aside0.mk (HX7_8.out.step hbb9)
    clear hbb9 HD8 HX5_8 HX6_8 HX7_8 hb9 ho9 hc9 hR9
    go_wp2_with fail
    refine (wharfingerlaw01_SameBytes.calls (y.length + 1) _ _ y _ _ y true _ HX6_9.out.r HX6_9.out.c HX9_9.out.r HX9_9.out.c HSY.out).mono ?_
    rintro e w10 ⟨rfl, ⟨hdr10⟩⟩
    have hbb10 : Below w9.heap.size w9 w10 := (Drawn0.below ⟨hdr10⟩)
    have HD10 := Aside0.mk (HD9.out.step hbb10)
    have HX5_10 := Aside0.mk (HX5_9.out.step hbb10)
    have HX6_10 := Aside0.mk (HX6_9.out.step hbb10)
    have HX7_10 := Aside0.mk (HX7_9.out.step hbb10)
    have HX9_10 := Aside0.mk (HX9_9.out.step hbb10)
    clear hbb10 hdr10 HD9 HX5_9 HX6_9 HX7_9 HX9_9
    go_wp2_with fail
    refine (opaque_Pad.calls n pd _ HPD.out).mono ?_
    rintro e w11 ⟨rfl, ⟨hdr11⟩⟩
    have hbb11 : Below w10.heap.size w10 w11 := (Drawn0.below ⟨hdr11⟩)
    have HD11 := Aside0.mk (HD10.out.step hbb11)
    have HX5_11 := Aside0.mk (HX5_10.out.step hbb11)
    have HX6_11 := Aside0.mk (HX6_10.out.step hbb11)
    have HX7_11 := Aside0.mk (HX7_10.out.step hbb11)
    have HX9_11 := Aside0.mk (HX9_10.out.step hbb11)
    clear hbb11 hdr11 HD10 HX5_10 HX6_10 HX7_10 HX9_10
    go_wp2_with fail
    refine (HRD.out _).mono ?_
    rintro e w' ⟨rfl, rfl⟩
    go_wp2_with fail
    refine (leftBytes_calls A4 c4 A c l _ HD11.out.t HC4.out HD11.out.r HC.out (by omega)).mono ?_
    rintro e w12 ⟨rfl, ⟨hdr12⟩⟩
    have hbb12 : Below w11.heap.size w11 w12 := (Drawn0.below ⟨hdr12⟩)
    have HD12 := Aside0.mk (HD11.out.step hbb12)
    have HX5_12 := Aside0.mk (HX5_11.out.step hbb12)
    have HX6_12 := Aside0.mk (HX6_11.out.step hbb12)
    have HX7_12 := Aside0.mk (HX7_11.out.step hbb12)
    have HX9_12 := Aside0.mk (HX9_11.out.step hbb12)
    clear hbb12 hdr12 HD11 HX5_11 HX6_11 HX7_11 HX9_11
    have HBK := Aside0.mk (book_new (ns := []) (bs := [ent A4 l.length c4 1, ent A5 x.length c5 2, ent A6 y.length c6 3]) HD12.out.b (rows3 HD12.out.o HX5_12.out.o HX6_12.out.o) rows0 (far3 FT_5.out FT_6.out F5_6.out) farN0 (nb3 HLB.out HXL.out HYL.out (by decide) (by decide) (by decide)) nums0 (len_le3 _ _ _) len_le0)
    go_wp2_with fail
    refine (bytes_keep w _ _ 0 0 0 _ _ A4 l.length c4 HBK.out (lt03 _ _ _) rfl (by decide) (by decide)).mono ?_
    rintro e wk0 ⟨rfl, hs0⟩
    have HS0_ := Aside0.mk hs0
    clear hs0 HBK
    go_wp2_with fail
    refine (bytes_keep w _ _ (0 + 1) 1 0 _ _ A5 x.length c5 HS0_.out (lt13 _ _ _) rfl (by decide) (by decide)).mono ?_
    rintro e wk1 ⟨rfl, hs1⟩
    have HS1_ := Aside0.mk hs1
    clear hs1 HS0_
    go_wp2_with fail
    refine (bytes_keep w _ _ (0 + 1 + 1) 2 0 _ _ A6 y.length c6 HS1_.out (lt23 _ _ _) rfl (by decide) (by decide)).mono ?_
    rintro e wk2 ⟨rfl, hs2⟩
    have HS2_ := Aside0.mk hs2
    clear hs2 HS1_
    go_wp2_with fail
    refine (apart_calls w _ _ _ [ent A4 l.length c4 1, ent A5 x.length c5 2, ent A6 y.length c6 3] [] HS2_.out).mono ?_
    rintro e wz ⟨rfl, hbz⟩
    go_wp2
    go_ret
    exact ⟨rfl, hbz⟩
set_option maxHeartbeats 4000000 in
set_option maxRecDepth 100000 in
theorem wharfingerlaw02_OpaqueGets.calls (A : Option Addr) (c : Nat) (l : List Int) (most : Int) (w : World) (hR : Kd.C (Kd.int .u8) w A l.length l) (hc : l.length ≤ c) (hl : l.length ≤ 140737488351232) (hb : byteOk l = true) :
    Calls Tryd.prog 4 #[.slice A l.length c, .int .i64 most] w fun e w' => e = .returned (.bool true) ∧ Below w.heap.size w w' := by
  have HR := Aside0.mk hR
  have HC := Aside0.mk hc
  have HN0 := Aside0.mk (show ∀ x ∈ [(l.length : Int)], 0 ≤ x by simp)
  have HS0 := Aside0.mk (show [(l.length : Int)].sum < 4611686018427387904 by simp; omega)
  clear hR hc
  by_cases hbig : (l.length : Int) > 1048576
  · have HBY := Aside0.mk (show decide ([(l.length : Int)].sum > 1048576) = true by simpa using hbig)
    clear hbig
    go_enter Tryd.func4, Tryd.ntmps4
    go_wp2_with fail
    refine (beyond_calls [(l.length : Int)] true _ 1 _ (lit_readsK .i64 _ _ _ _ _ rfl (by simp)) (by simp) HN0.out (by simp) HS0.out HBY.out).mono ?_
    rintro e w2 ⟨rfl, ⟨nd, rfl⟩⟩
    go_wp2
    go_ret
    exact ⟨rfl, pw_below_drewN (below_alloc (Below.refl _ _) _) _⟩
  · have HBY := Aside0.mk (show decide ([(l.length : Int)].sum > 1048576) = false by simpa using hbig)
    have hl2 : l.length ≤ 1048576 := by omega
    have HLB := Aside0.mk (show l.length ≤ 100000000 by omega)
    obtain ⟨x, m, e0, hg, hxl⟩ := oget_some most hb
    have HG := Aside0.mk hg
    have HXL := Aside0.mk (show x.length ≤ 100000000 by omega)
    have HSX := Aside0.mk (same_self (x.length + 1) x (by have := HXL.out; omega) (by omega))
    have HRG : Aside0 (∀ W, RB W A l → Calls Tryd.prog 19 #[.slice A l.length c, .int .i64 most] W fun e w' => ∃ v, e = .returned (.tuple #[v, .int .i64 m, .int .i64 e0]) ∧ OB w' W.heap.size v x ∧ Below W.heap.size W w') := ⟨fun W hW => ref02_Get_calls A c l most x m e0 W hW HC.out hb (by omega) hg⟩
    have cm : (m != m) = false := by simp
    have ce : (e0 != e0) = false := by simp
    clear hbig hl hg hxl hb
    go_enter Tryd.func4, Tryd.ntmps4
    go_wp2_with fail
    refine (beyond_calls [(l.length : Int)] false _ 1 _ (lit_readsK .i64 _ _ _ _ _ rfl (by simp)) (by simp) HN0.out (by simp) HS0.out HBY.out).mono ?_
    rintro e w2 ⟨rfl, ⟨nd, rfl⟩⟩
    have hb2 : Below w.heap.size w ((w.alloc (.cells (nums .i64 [(l.length : Int)]).toArray 3)).drewN nd) := pw_below_drewN (below_alloc (Below.refl _ _) _) _
    obtain ⟨w3, hw3⟩ : ∃ w3, (w.alloc (.cells (nums .i64 [(l.length : Int)]).toArray 3)).drewN nd = w3 := ⟨_, rfl⟩
    rw [hw3] at hb2
    have HB2 := Aside0.mk hb2
    have HR2 := Aside0.mk (Kd.C_below HR.out hb2)
    rw [hw3]
    clear hb2 hw3
    go_wp2_with fail
    refine (twinBytes_calls A c l _ HR2.out HC.out (by omega)).mono ?_
    rintro e w4 ⟨A4, c4, rfl, hc4, ho4, hb4⟩
    have HB4 := Aside0.mk (below_then HB2.out HB2.out.size hb4)
    have HR4 := Aside0.mk (Kd.C_below HR2.out hb4)
    have HT4 := Aside0.mk (show Kd.C (Kd.int .u8) w4 A4 (l ++ [77]).length (l ++ [77]) from (Kd.R_reads' ho4).2.2)
    have HC4 := Aside0.mk hc4
    have HO4 := Aside0.mk (row_twin ho4 HB2.out.size)
    clear ho4 hb4 HR2 HB2 hc4
    have HD4 := Aside0.mk (show DW w w4 A l A4 c4 from ⟨HB4.out, HR4.out, HT4.out, HO4.out⟩)
    clear HB4 HR4 HT4 HO4
    go_wp2_with fail
    refine (opaque_Get.calls A4 c4 l most x m e0 _ (byte_front HD4.out.t) (Nat.le_of_lt HC4.out) HG.out).mono ?_
    rintro e w5 ⟨v5, rfl, ho5, hb5⟩
    have hbb5 : Below w4.heap.size w4 w5 := hb5
    obtain ⟨A5, c5, rfl, hc5, hR5⟩ := OB_reads ho5
    have FT_5 := Aside0.mk (later_than HD4.out.o (Kd.own_of_R ho5) (Nat.le_refl _))
    have HX5_5 := Aside0.mk (DX.new (w0 := w) ho5 HD4.out.b.size hc5 hR5)
    have HD5 := Aside0.mk (HD4.out.step hbb5)
    clear hbb5 HD4 hb5 ho5 hc5 hR5
    go_wp2_with fail
    refine (opaque_Get.calls A4 c4 l most x m e0 _ (byte_front HD5.out.t) (Nat.le_of_lt HC4.out) HG.out).mono ?_
    rintro e w6 ⟨v6, rfl, ho6, hb6⟩
    have hbb6 : Below w5.heap.size w5 w6 := hb6
    obtain ⟨A6, c6, rfl, hc6, hR6⟩ := OB_reads ho6
    have F5_6 := Aside0.mk (later_than HX5_5.out.o (Kd.own_of_R ho6) (Nat.le_refl _))
    have FT_6 := Aside0.mk (later_than HD5.out.o (Kd.own_of_R ho6) (Nat.le_refl _))
    have HX6_6 := Aside0.mk (DX.new (w0 := w) ho6 HD5.out.b.size hc6 hR6)
    have HD6 := Aside0.mk (HD5.out.step hbb6)
    have HX5_6 := Aside0.mk (HX5_5.out.step hbb6)
    clear hbb6 HD5 HX5_5 hb6 ho6 hc6 hR6
    go_wp2_with fail
    refine (HRG.out _ HD6.out.r).mono ?_
    rintro e w7 ⟨v7, rfl, ho7, hb7⟩
    have hbb7 : Below w6.heap.size w6 w7 := hb7
    obtain ⟨A7, c7, rfl, hc7, hR7⟩ := OB_reads ho7
    have F5_7 := Aside0.mk (later_than HX5_6.out.o (Kd.own_of_R ho7) (Nat.le_refl _))
    have F6_7 := Aside0.mk (later_than HX6_6.out.o (Kd.own_of_R ho7) (Nat.le_refl _))
    have FT_7 := Aside0.mk (later_than HD6.out.o (Kd.own_of_R ho7) (Nat.le_refl _))
    have HX7_7 := Aside0.mk (DX.new (w0 := w) ho7 HD6.out.b.size hc7 hR7)
    have HD7 := Aside0.mk (HD6.out.step hbb7)
    have HX5_7 := Aside0.mk (HX5_6.out.step hbb7)
    have HX6_7 := Aside0.mk (HX6_6.out.step hbb7)
    clear hbb7 HD6 HX5_6 HX6_6 hb7 ho7 hc7 hR7
    go_wp2_with fail
    refine (wharfingerlaw01_SameBytes.calls (x.length + 1) _ _ x _ _ x true _ HX5_7.out.r HX5_7.out.c HX7_7.out.r HX7_7.out.c HSX.out).mono ?_
    rintro e w8 ⟨rfl, ⟨hdr8⟩⟩
    have hbb8 : Below w7.heap.size w7 w8 := (Drawn0.below ⟨hdr8⟩)
    have HD8 := Aside0.mk (HD7.out.step hbb8)
    have HX5_8 := Aside0.mk (HX5_7.out.step hbb8)
    have HX6_8 := Aside0.mk (HX6_7.out.step hbb8)
    have HX7_8 := Aside0.mk (HX7_7.out.step hbb8)
    clear hbb8 hdr8 HD7 HX5_7 HX6_7 HX7_7
    go_wp2_with fail
    refine (wharfingerlaw01_SameBytes.calls (x.length + 1) _ _ x _ _ x true _ HX6_8.out.r HX6_8.out.c HX7_8.out.r HX7_8.out.c HSX.out).mono ?_
    rintro e w9 ⟨rfl, ⟨hdr9⟩⟩
    have hbb9 : Below w8.heap.size w8 w9 := (Drawn0.below ⟨hdr9⟩)
    have HD9 := Aside0.mk (HD8.out.step hbb9)
    have HX5_9 := Aside0.mk (HX5_8.out.step hbb9)
    have HX6_9 := Aside0.mk (HX6_8.out.step hbb9)
    have HX7_9 := Aside0.mk (HX7_8.out.step hbb9)
    clear hbb9 hdr9 HD8 HX5_8 HX6_8 HX7_8
    go_wp2_with fail
    refine (leftBytes_calls A4 c4 A c l _ HD9.out.t HC4.out HD9.out.r HC.out (by omega)).mono ?_
    rintro e w10 ⟨rfl, ⟨hdr10⟩⟩
    have hbb10 : Below w9.heap.size w9 w10 := (Drawn0.below ⟨hdr10⟩)
    have HD10 := Aside0.mk (HD9.out.step hbb10)
    have HX5_10 := Aside0.mk (HX5_9.out.step hbb10)
    have HX6_10 := Aside0.mk (HX6_9.out.step hbb10)
    have HX7_10 := Aside0.mk (HX7_9.out.step hbb10)
    clear hbb10 hdr10 HD9 HX5_9 HX6_9 HX7_9
    have HBK := Aside0.mk (book_new (ns := []) (bs := [ent A4 l.length c4 1, ent A5 x.length c5 2, ent A6 x.length c6 3]) HD10.out.b (rows3 HD10.out.o HX5_10.out.o HX6_10.out.o) rows0 (far3 FT_5.out FT_6.out F5_6.out) farN0 (nb3 HLB.out HXL.out HXL.out (by decide) (by decide) (by decide)) nums0 (len_le3 _ _ _) len_le0)
    go_wp2_with fail
    refine (bytes_keep w _ _ 0 0 0 _ _ A4 l.length c4 HBK.out (lt03 _ _ _) rfl (by decide) (by decide)).mono ?_
    rintro e wk0 ⟨rfl, hs0⟩
    have HS0_ := Aside0.mk hs0
    clear hs0 HBK
    go_wp2_with fail
    refine (bytes_keep w _ _ (0 + 1) 1 0 _ _ A5 x.length c5 HS0_.out (lt13 _ _ _) rfl (by decide) (by decide)).mono ?_
    rintro e wk1 ⟨rfl, hs1⟩
    have HS1_ := Aside0.mk hs1
    clear hs1 HS0_
    go_wp2_with fail
    refine (bytes_keep w _ _ (0 + 1 + 1) 2 0 _ _ A6 x.length c6 HS1_.out (lt23 _ _ _) rfl (by decide) (by decide)).mono ?_
    rintro e wk2 ⟨rfl, hs2⟩
    have HS2_ := Aside0.mk hs2
    clear hs2 HS1_
    go_wp2_with fail
    refine (apart_calls w _ _ _ [ent A4 l.length c4 1, ent A5 x.length c5 2, ent A6 x.length c6 3] [] HS2_.out).mono ?_
    rintro e wz ⟨rfl, hbz⟩
    go_wp2
    go_ret
    exact ⟨rfl, hbz⟩
set_option maxHeartbeats 4000000 in
set_option maxRecDepth 100000 in
theorem wharfingerlaw02_OpaqueFixed.calls (A : Option Addr) (c : Nat) (l : List Int) (n : Int) (w : World) (hR : Kd.C (Kd.int .u8) w A l.length l) (hc : l.length ≤ c) (hl : l.length ≤ 140737488351232) :
    Calls Tryd.prog 5 #[.slice A l.length c, .int .i64 n] w fun e w' => e = .returned (.bool true) ∧ Below w.heap.size w w' := by
  have HR := Aside0.mk hR
  have HC := Aside0.mk hc
  have HN0 := Aside0.mk (show ∀ x ∈ [(l.length : Int)], 0 ≤ x by simp)
  have HS0 := Aside0.mk (show [(l.length : Int)].sum < 4611686018427387904 by simp; omega)
  clear hR hc
  by_cases hbig : (l.length : Int) > 1048576
  · have HBY := Aside0.mk (show decide ([(l.length : Int)].sum > 1048576) = true by simpa using hbig)
    clear hbig
    go_enter Tryd.func5, Tryd.ntmps5
    go_wp2_with fail
    refine (beyond_calls [(l.length : Int)] true _ 1 _ (lit_readsK .i64 _ _ _ _ _ rfl (by simp)) (by simp) HN0.out (by simp) HS0.out HBY.out).mono ?_
    rintro e w2 ⟨rfl, ⟨nd, rfl⟩⟩
    go_wp2
    go_ret
    exact ⟨rfl, pw_below_drewN (below_alloc (Below.refl _ _) _) _⟩
  · have HBY := Aside0.mk (show decide ([(l.length : Int)].sum > 1048576) = false by simpa using hbig)
    have hl2 : l.length ≤ 1048576 := by omega
    have HLB := Aside0.mk (show l.length ≤ 100000000 by omega)
    obtain ⟨x, m, e0, hg, hxl⟩ := ofix_some l n
    have HG := Aside0.mk hg
    have HXL := Aside0.mk (show x.length ≤ 100000000 by omega)
    have HSX := Aside0.mk (same_self (x.length + 1) x (by have := HXL.out; omega) (by omega))
    have HRG : Aside0 (∀ W, RB W A l → Calls Tryd.prog 21 #[.slice A l.length c, .int .i64 n] W fun e w' => ∃ v, e = .returned (.tuple #[v, .int .i64 m, .int .i64 e0]) ∧ OB w' W.heap.size v x ∧ Below W.heap.size W w') := ⟨fun W hW => ref02_GetFixed_calls A c l n x m e0 W hW HC.out (by omega) hg⟩
    have cm : (m != m) = false := by simp
    have ce : (e0 != e0) = false := by simp
    clear hbig hl hg hxl
    go_enter Tryd.func5, Tryd.ntmps5
    go_wp2_with fail
    refine (beyond_calls [(l.length : Int)] false _ 1 _ (lit_readsK .i64 _ _ _ _ _ rfl (by simp)) (by simp) HN0.out (by simp) HS0.out HBY.out).mono ?_
    rintro e w2 ⟨rfl, ⟨nd, rfl⟩⟩
    have hb2 : Below w.heap.size w ((w.alloc (.cells (nums .i64 [(l.length : Int)]).toArray 3)).drewN nd) := pw_below_drewN (below_alloc (Below.refl _ _) _) _
    obtain ⟨w3, hw3⟩ : ∃ w3, (w.alloc (.cells (nums .i64 [(l.length : Int)]).toArray 3)).drewN nd = w3 := ⟨_, rfl⟩
    rw [hw3] at hb2
    have HB2 := Aside0.mk hb2
    have HR2 := Aside0.mk (Kd.C_below HR.out hb2)
    rw [hw3]
    clear hb2 hw3
    go_wp2_with fail
    refine (twinBytes_calls A c l _ HR2.out HC.out (by omega)).mono ?_
    rintro e w4 ⟨A4, c4, rfl, hc4, ho4, hb4⟩
    have HB4 := Aside0.mk (below_then HB2.out HB2.out.size hb4)
    have HR4 := Aside0.mk (Kd.C_below HR2.out hb4)
    have HT4 := Aside0.mk (show Kd.C (Kd.int .u8) w4 A4 (l ++ [77]).length (l ++ [77]) from (Kd.R_reads' ho4).2.2)
    have HC4 := Aside0.mk hc4
    have HO4 := Aside0.mk (row_twin ho4 HB2.out.size)
    clear ho4 hb4 HR2 HB2 hc4
    have HD4 := Aside0.mk (show DW w w4 A l A4 c4 from ⟨HB4.out, HR4.out, HT4.out, HO4.out⟩)
    clear HB4 HR4 HT4 HO4
    go_wp2_with fail
    refine (opaque_GetFixed.calls A4 c4 l n x m e0 _ (byte_front HD4.out.t) (Nat.le_of_lt HC4.out) HG.out).mono ?_
    rintro e w5 ⟨v5, rfl, ho5, hb5⟩
    have hbb5 : Below w4.heap.size w4 w5 := hb5
    obtain ⟨A5, c5, rfl, hc5, hR5⟩ := OB_reads ho5
    have FT_5 := Aside0.mk (later_than HD4.out.o (Kd.own_of_R ho5) (Nat.le_refl _))
    have HX5_5 := Aside0.mk (DX.new (w0 := w) ho5 HD4.out.b.size hc5 hR5)
    have HD5 := Aside0.mk (HD4.out.step hbb5)
    clear hbb5 HD4 hb5 ho5 hc5 hR5
    go_wp2_with fail
    refine (opaque_GetFixed.calls A4 c4 l n x m e0 _ (byte_front HD5.out.t) (Nat.le_of_lt HC4.out) HG.out).mono ?_
    rintro e w6 ⟨v6, rfl, ho6, hb6⟩
    have hbb6 : Below w5.heap.size w5 w6 := hb6
    obtain ⟨A6, c6, rfl, hc6, hR6⟩ := OB_reads ho6
    have F5_6 := Aside0.mk (later_than HX5_5.out.o (Kd.own_of_R ho6) (Nat.le_refl _))
    have FT_6 := Aside0.mk (later_than HD5.out.o (Kd.own_of_R ho6) (Nat.le_refl _))
    have HX6_6 := Aside0.mk (DX.new (w0 := w) ho6 HD5.out.b.size hc6 hR6)
    have HD6 := Aside0.mk (HD5.out.step hbb6)
    have HX5_6 := Aside0.mk (HX5_5.out.step hbb6)
    clear hbb6 HD5 HX5_5 hb6 ho6 hc6 hR6
    go_wp2_with fail
    refine (HRG.out _ HD6.out.r).mono ?_
    rintro e w7 ⟨v7, rfl, ho7, hb7⟩
    have hbb7 : Below w6.heap.size w6 w7 := hb7
    obtain ⟨A7, c7, rfl, hc7, hR7⟩ := OB_reads ho7
    have F5_7 := Aside0.mk (later_than HX5_6.out.o (Kd.own_of_R ho7) (Nat.le_refl _))
    have F6_7 := Aside0.mk (later_than HX6_6.out.o (Kd.own_of_R ho7) (Nat.le_refl _))
    have FT_7 := Aside0.mk (later_than HD6.out.o (Kd.own_of_R ho7) (Nat.le_refl _))
    have HX7_7 := Aside0.mk (DX.new (w0 := w) ho7 HD6.out.b.size hc7 hR7)
    have HD7 := Aside0.mk (HD6.out.step hbb7)
    have HX5_7 := Aside0.mk (HX5_6.out.step hbb7)
    have HX6_7 := Aside0.mk (HX6_6.out.step hbb7)
    clear hbb7 HD6 HX5_6 HX6_6 hb7 ho7 hc7 hR7
    go_wp2_with fail
    refine (wharfingerlaw01_SameBytes.calls (x.length + 1) _ _ x _ _ x true _ HX5_7.out.r HX5_7.out.c HX7_7.out.r HX7_7.out.c HSX.out).mono ?_
    rintro e w8 ⟨rfl, ⟨hdr8⟩⟩
    have hbb8 : Below w7.heap.size w7 w8 := (Drawn0.below ⟨hdr8⟩)
    have HD8 := Aside0.mk (HD7.out.step hbb8)
    have HX5_8 := Aside0.mk (HX5_7.out.step hbb8)
    have HX6_8 := Aside0.mk (HX6_7.out.step hbb8)
    have HX7_8 := Aside0.mk (HX7_7.out.step hbb8)
    clear hbb8 hdr8 HD7 HX5_7 HX6_7 HX7_7
    go_wp2_with fail
    refine (wharfingerlaw01_SameBytes.calls (x.length + 1) _ _ x _ _ x true _ HX6_8.out.r HX6_8.out.c HX7_8.out.r HX7_8.out.c HSX.out).mono ?_
    rintro e w9 ⟨rfl, ⟨hdr9⟩⟩
    have hbb9 : Below w8.heap.size w8 w9 := (Drawn0.below ⟨hdr9⟩)
    have HD9 := Aside0.mk (HD8.out.step hbb9)
    have HX5_9 := Aside0.mk (HX5_8.out.step hbb9)
    have HX6_9 := Aside0.mk (HX6_8.out.step hbb9)
    have HX7_9 := Aside0.mk (HX7_8.out.step hbb9)
    clear hbb9 hdr9 HD8 HX5_8 HX6_8 HX7_8
    go_wp2_with fail
    refine (leftBytes_calls A4 c4 A c l _ HD9.out.t HC4.out HD9.out.r HC.out (by omega)).mono ?_
    rintro e w10 ⟨rfl, ⟨hdr10⟩⟩
    have hbb10 : Below w9.heap.size w9 w10 := (Drawn0.below ⟨hdr10⟩)
    have HD10 := Aside0.mk (HD9.out.step hbb10)
    have HX5_10 := Aside0.mk (HX5_9.out.step hbb10)
    have HX6_10 := Aside0.mk (HX6_9.out.step hbb10)
    have HX7_10 := Aside0.mk (HX7_9.out.step hbb10)
    clear hbb10 hdr10 HD9 HX5_9 HX6_9 HX7_9
    have HBK := Aside0.mk (book_new (ns := []) (bs := [ent A4 l.length c4 1, ent A5 x.length c5 2, ent A6 x.length c6 3]) HD10.out.b (rows3 HD10.out.o HX5_10.out.o HX6_10.out.o) rows0 (far3 FT_5.out FT_6.out F5_6.out) farN0 (nb3 HLB.out HXL.out HXL.out (by decide) (by decide) (by decide)) nums0 (len_le3 _ _ _) len_le0)
    go_wp2_with fail
    refine (bytes_keep w _ _ 0 0 0 _ _ A4 l.length c4 HBK.out (lt03 _ _ _) rfl (by decide) (by decide)).mono ?_
    rintro e wk0 ⟨rfl, hs0⟩
    have HS0_ := Aside0.mk hs0
    clear hs0 HBK
    go_wp2_with fail
    refine (bytes_keep w _ _ (0 + 1) 1 0 _ _ A5 x.length c5 HS0_.out (lt13 _ _ _) rfl (by decide) (by decide)).mono ?_
    rintro e wk1 ⟨rfl, hs1⟩
    have HS1_ := Aside0.mk hs1
    clear hs1 HS0_
    go_wp2_with fail
    refine (bytes_keep w _ _ (0 + 1 + 1) 2 0 _ _ A6 x.length c6 HS1_.out (lt23 _ _ _) rfl (by decide) (by decide)).mono ?_
    rintro e wk2 ⟨rfl, hs2⟩
    have HS2_ := Aside0.mk hs2
    clear hs2 HS1_
    go_wp2_with fail
    refine (apart_calls w _ _ _ [ent A4 l.length c4 1, ent A5 x.length c5 2, ent A6 x.length c6 3] [] HS2_.out).mono ?_
    rintro e wz ⟨rfl, hbz⟩
    go_wp2
    go_ret
    exact ⟨rfl, hbz⟩
end Go.Proofs.YtgodigappobicaaDoor.Hand
