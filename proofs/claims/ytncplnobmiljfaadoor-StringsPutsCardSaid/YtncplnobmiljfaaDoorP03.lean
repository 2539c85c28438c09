import Derived.Test.YtncplnobmiljfaaDoorNB
import Derived.Test.YtncplnobmiljfaaDoorR2
import Derived.Test.YtncplnobmiljfaaDoorS2
namespace Go.Proofs.YtncplnobmiljfaaDoor.Hand
open Go.RowKit Go.Proofs.YtncplnobmiljfaaDoor.GB Go.Proofs.YtncplnobmiljfaaDoorW.PrintWords Go.Proofs.YtncplnobmiljfaaDoorW.PrintLast Go.Proofs.YtncplnobmiljfaaDoorW.PrintMore
set_option linter.unusedVariables false
set_option linter.unusedSimpArgs false

set_option maxHeartbeats 4000000 in
set_option maxRecDepth 100000 in
theorem wharfingerlaw03_StringsPuts.calls (s : ByteArray) (w : World) (hs : s.size ≤ 140737488351232) :
    Calls Tryd.prog 3 #[.string s] w fun e w' => e = .returned (.bool true) ∧ Below w.heap.size w w' := by
  have HN0 := Aside0.mk (show ∀ x ∈ [(s.size : Int)], 0 ≤ x by simp)
  have HS0 := Aside0.mk (show [(s.size : Int)].sum < 4611686018427387904 by simp; omega)
  by_cases hbig : (s.size : Int) > 1048576
  · have HBY := Aside0.mk (show decide ([(s.size : Int)].sum > 1048576) = true by simpa using hbig)
    clear hbig
    go_enter Tryd.func3, Tryd.ntmps3
    go_wp2_with fail
    refine (beyond_calls [(s.size : Int)] true _ 1 _ (lit_readsK .i64 _ _ _ _ _ rfl (by simp)) (by simp) HN0.out (by simp) HS0.out HBY.out).mono ?_
    rintro e w2 ⟨rfl, ⟨nd, rfl⟩⟩
    go_wp2
    go_ret
    exact ⟨rfl, pw_below_drewN (below_alloc (Below.refl _ _) _) _⟩
  · have HBY := Aside0.mk (show decide ([(s.size : Int)].sum > 1048576) = false by simpa using hbig)
    have hs2 : s.size ≤ 1048576 := by omega
    have HPF := Aside0.mk (sput_f s (by omega))
    have HPL := Aside0.mk (show (putL (bytesOf s)).length ≤ 1048600 by have h1 := putL_length (bytesOf s); have h2 := padI_range (bytesOf s).length; have h3 := bytesOf_length s; omega)
    have HSS := Aside0.mk (same_self ((putL (bytesOf s)).length + 1) (putL (bytesOf s)) (by have := HPL.out; omega) (by omega))
    have HNF := Aside0.mk (name_f s (by omega))
    have HAF := Aside0.mk (path_f s (by omega))
    obtain ⟨y, hy⟩ : ∃ y, putL (bytesOf s) = y := ⟨_, rfl⟩
    obtain ⟨nm, hnm⟩ : ∃ n, isS s 255 [0, 47] = n := ⟨_, rfl⟩
    obtain ⟨pt, hpt⟩ : ∃ n, isS s 1024 [0] = n := ⟨_, rfl⟩
    have HRP : Aside0 (∀ W, Calls Tryd.prog 11 #[.string s] W fun e w' => ∃ v, e = .returned v ∧ OB w' W.heap.size v y ∧ Below W.heap.size W w') := ⟨fun W => hy ▸ ref03_Put_calls s W (by omega)⟩
    have HRN : Aside0 (∀ W, Calls Tryd.prog 13 #[.string s] W fun e w' => e = .returned (.int .u32 nm) ∧ W = w') := ⟨fun W => hnm ▸ ref03_Name_calls s W (by omega)⟩
    have HRA : Aside0 (∀ W, Calls Tryd.prog 15 #[.string s] W fun e w' => e = .returned (.int .u32 pt) ∧ W = w') := ⟨fun W => hpt ▸ ref03_Path_calls s W (by omega)⟩
    rw [hy] at HPF HPL HSS
    rw [hnm] at HNF
    rw [hpt] at HAF
    have c1 : (nm != nm) = false := by simp
    have c2 : (pt != pt) = false := by simp
    clear hbig hs hy hnm hpt
    go_enter Tryd.func3, Tryd.ntmps3
    go_wp2_with fail
    refine (beyond_calls [(s.size : Int)] false _ 1 _ (lit_readsK .i64 _ _ _ _ _ rfl (by simp)) (by simp) HN0.out (by simp) HS0.out HBY.out).mono ?_
    rintro e w2 ⟨rfl, ⟨nd, rfl⟩⟩
    have hb2 : Below w.heap.size w ((w.alloc (.cells (nums .i64 [(s.size : Int)]).toArray 3)).drewN nd) := pw_below_drewN (below_alloc (Below.refl _ _) _) _
    obtain ⟨w3, hw3⟩ : ∃ w3, (w.alloc (.cells (nums .i64 [(s.size : Int)]).toArray 3)).drewN nd = w3 := ⟨_, rfl⟩
    rw [hw3] at hb2
    have HB2 := Aside0.mk hb2
    rw [hw3]
    clear hb2 hw3
    go_wp2_with fail
    refine (strings_Put.calls s y _ HPF.out).mono ?_
    rintro e w4 ⟨v4, rfl, ho4, hb4⟩
    obtain ⟨A4, c4, rfl, hc4, _⟩ := OB_reads ho4
    have HB4 := Aside0.mk (below_then HB2.out HB2.out.size hb4)
    have HR4 := Aside0.mk (row_of ho4 HB2.out.size)
    have HO4 := Aside0.mk ho4
    have HC4 := Aside0.mk hc4
    clear ho4 hb4 hc4
    go_wp2_with fail
    refine (strings_Put.calls s y _ HPF.out).mono ?_
    rintro e w5 ⟨v5, rfl, ho5, hb5⟩
    obtain ⟨A5, c5, rfl, hc5, _⟩ := OB_reads ho5
    have HB5 := Aside0.mk (below_then HB4.out HB4.out.size hb5)
    have HR5 := Aside0.mk (row_of ho5 HB4.out.size)
    have HQ5 := Aside0.mk (pw_own_below HR4.out hb5)
    have HFAR := Aside0.mk (show ∀ a b, (Value.slice A4 y.length c4).ownBlock = some a → (Value.slice A5 y.length c5).ownBlock = some b → a < b from fun a b ha hb => by
      have h1 := own_lt HR4.out a ha
      have h2 := Kd.R_base ho5 b hb
      omega)
    have HO5 := Aside0.mk ho5
    have HU5 := Aside0.mk (Kd.R_below HO4.out hb5)
    have HC5 := Aside0.mk hc5
    clear ho5 hb5 hc5 HO4 HR4 HB4 HB2
    go_wp2_with fail
    refine (HRP.out _).mono ?_
    rintro e w6 ⟨v6, rfl, ho6, hb6⟩
    obtain ⟨A6, c6, rfl, hc6, hR6⟩ := OB_reads ho6
    have HB6 := Aside0.mk (below_then HB5.out HB5.out.size hb6)
    have HR6 := Aside0.mk (pw_own_below HR5.out hb6)
    have HQ6 := Aside0.mk (pw_own_below HQ5.out hb6)
    have HU6 := Aside0.mk (Kd.R_below HU5.out hb6)
    have HO6 := Aside0.mk (Kd.R_below HO5.out hb6)
    have HX6 := Aside0.mk hR6
    have HC6 := Aside0.mk hc6
    clear ho6 hb6 hc6 hR6 HB5 HR5 HQ5 HU5 HO5
    go_wp2_with fail
    refine (wharfingerlaw01_SameBytes.calls (y.length + 1) _ _ y _ _ y true _ (Kd.R_reads' HU6.out).2.2 HC4.out HX6.out HC6.out HSS.out).mono ?_
    rintro e w7 ⟨rfl, ⟨nd7, rfl⟩⟩
    have HU7 := Aside0.mk (Kd.R_drewN HU6.out nd7)
    have HO7 := Aside0.mk (Kd.R_drewN HO6.out nd7)
    go_wp2_with fail
    refine (wharfingerlaw01_SameBytes.calls (y.length + 1) _ _ y _ _ y true _ (Kd.R_reads' HO7.out).2.2 HC5.out (Kd.R_reads' HU7.out).2.2 HC4.out HSS.out).mono ?_
    rintro e w8 ⟨rfl, ⟨nd8, rfl⟩⟩
    have hb8 : Below w6.heap.size w6 (w6.drewN (nd7 + nd8)) := pw_below_drewN (Below.refl _ _) _
    obtain ⟨w9, hw9⟩ : ∃ w9, w6.drewN (nd7 + nd8) = w9 := ⟨_, rfl⟩
    rw [hw9] at hb8
    have HB9 := Aside0.mk (below_then HB6.out HB6.out.size hb8)
    have HR9 := Aside0.mk (pw_own_below HR6.out hb8)
    have HQ9 := Aside0.mk (pw_own_below HQ6.out hb8)
    have HW9 := Aside0.mk hw9
    clear hb8 hw9 HU6 HO6 HU7 HO7 HX6 HC6 HB6 HR6 HQ6
    go_wp2_with fail
    rw [HW9.out]
    refine (strings_Name.calls s nm _ HNF.out).mono ?_
    rintro e w10 ⟨rfl, hb10⟩
    have HB10 := Aside0.mk (below_then HB9.out HB9.out.size hb10)
    have HR10 := Aside0.mk (pw_own_below HR9.out hb10)
    have HQ10 := Aside0.mk (pw_own_below HQ9.out hb10)
    clear hb10 HB9 HR9 HQ9 HW9
    go_wp2_with fail
    refine (HRN.out _).mono ?_
    rintro e w11 ⟨rfl, rfl⟩
    go_wp2_with fail
    refine (strings_Path.calls s pt _ HAF.out).mono ?_
    rintro e w12 ⟨rfl, hb12⟩
    have HB12 := Aside0.mk (below_then HB10.out HB10.out.size hb12)
    have HR12 := Aside0.mk (pw_own_below HR10.out hb12)
    have HQ12 := Aside0.mk (pw_own_below HQ10.out hb12)
    clear hb12 HB10 HR10 HQ10
    go_wp2_with fail
    refine (HRA.out _).mono ?_
    rintro e w13 ⟨rfl, rfl⟩
    have HBK := Aside0.mk (book_new (ns := []) (bs := [ent A4 y.length c4 1, ent A5 y.length c5 2]) HB12.out (rows2 HQ12.out HR12.out) rows0 (far2 HFAR.out) farN0 (nb2 (Nat.le_trans HPL.out (by decide)) (Nat.le_trans HPL.out (by decide)) (by decide) (by decide)) nums0 (len_le2 _ _) len_le0)
    go_wp2_with fail
    refine (bytes_keep w _ _ 0 0 0 _ _ A4 y.length c4 HBK.out (lt02 _ _) rfl (by decide) (by decide)).mono ?_
    rintro e w14 ⟨rfl, hs14⟩
    have HS14 := Aside0.mk hs14
    clear hs14 HBK HR12 HQ12
    go_wp2_with fail
    refine (bytes_keep w _ _ (0 + 1) 1 0 _ _ A5 y.length c5 HS14.out (lt12 _ _) rfl (by decide) (by decide)).mono ?_
    rintro e w15 ⟨rfl, hs15⟩
    have HS15 := Aside0.mk hs15
    clear hs15 HS14
    go_wp2_with fail
    refine (apart_calls w _ _ _ [ent A4 y.length c4 1, ent A5 y.length c5 2] [] HS15.out).mono ?_
    rintro e w16 ⟨rfl, hb16⟩
    go_wp2
    go_ret
    exact ⟨rfl, hb16⟩
end Go.Proofs.YtncplnobmiljfaaDoor.Hand
