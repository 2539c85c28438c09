import Derived.Test.YtoalknneifpehaaDoorC2
import Derived.Deep.Cut
import Derived.Deep.DeepCutAuto
import Derived.Deep.RegionLaw
namespace Go.Proofs.YtoalknneifpehaaDoor.Hand
open Go.RowKit Go.Proofs.YtoalknneifpehaaDoorW.PrintWords Go.Proofs.YtoalknneifpehaaDoorW.PrintLast Go.Proofs.YtoalknneifpehaaDoorW.PrintMore
set_option linter.unusedVariables false
set_option linter.unusedSimpArgs false

/-- The error of too many groups; of bytes that are left. -/
def limG (k e : Int) : Int := if e = 0 then (if k > 16 then 3 else 0) else e
def endG (l : List Int) (e : Int) : Int := if e = 0 then (if 0 < l.length then 5 else 0) else e
structure CredR where
  s : Int
  m : ByteArray
  u : Int
  g : Int
  gs : List Int
  e : Int
/-- Who calls, out of bytes. -/
def credG (l : List Int) : CredR :=
  let a := numG l 0
  let s := strG a.2.1 a.2.2
  let u := numG s.2.1 s.2.2
  let g := numG u.2.1 u.2.2
  let k := numG g.2.1 g.2.2
  let r := grpG k.1.toNat [] k.2.1 (limG k.1 k.2.2)
  let e := endG r.2.1 r.2.2
  if e = 0 then ⟨a.1, s.1, u.1, g.1, r.1, 0⟩ else ⟨0, ByteArray.empty, 0, 0, [], e⟩

theorem strG_zero {l : List Int} {m : ByteArray} {n : Nat} {e : Int} (h : strings_Get.f l 255 = some (m, (n : Int), e)) : strG l 0 = (m, l.drop n, e) := by
  unfold strG; rw [if_pos rfl, h]; rfl
theorem strG_else {l : List Int} {e : Int} (h : e ≠ 0) : strG l e = (ByteArray.empty, l, e) := by unfold strG; rw [if_neg h]
theorem numG_range {l : List Int} (h : byteOk l = true) (e : Int) : 0 ≤ (numG l e).1 ∧ (numG l e).1 < 4294967296 := by
  unfold numG
  by_cases he : e = 0
  · rw [if_pos he]
    by_cases hl : l.length < 4
    · rw [if_pos hl]; simp
    · rw [if_neg hl]
      have := deB_range 4 (l.take 4) (by simp; omega) (byteOk_take h 4)
      simp at this ⊢; exact this
  · rw [if_neg he]; simp

theorem limG_zero {k e : Int} (h : limG k e = 0) : k ≤ 16 := by
  unfold limG at h
  by_cases he : e = 0
  · rw [if_pos he] at h
    by_cases hk : k > 16
    · rw [if_pos hk] at h; omega
    · omega
  · rw [if_neg he] at h; exact absurd h he
def grpMu (C : Nat) (k : Int) (w : World) : Nat := match w.cell? ⟨C, 2, none⟩ with | some (.slice _ n _) => k.toNat - n | _ => 0
def creds_Get.f (l0 : List Int) : Option (Int × ByteArray × Int × Int × List Int × Int) :=
  if byteOk l0 = true then some ((credG l0).s, (credG l0).m, (credG l0).u, (credG l0).g, (credG l0).gs, (credG l0).e) else none

def GetPost (w0 : World) (s : Int) (m : ByteArray) (u g : Int) (gs : List Int) (e : Int) (x : Ending) (w' : World) : Prop :=
  ∃ v0_ : Value, x = .returned (.tuple #[.int .u32 s, .string m, .agg #[.int .u32 u, .int .u32 g, v0_], .int .i64 e]) ∧ Kd.R (Kd.int .u32) 22 w' w0.heap.size (fun _ => True) v0_ gs ∧ Below w0.heap.size w0 w'
set_option maxHeartbeats 4000000 in
theorem fin_ok {w w1 : World} {l : List Int} {u g s e : Int} {m : ByteArray} {v : Value} {gs : List Int} (h : St w w1 l e u g v gs) (t : Array Value)
    (h2 : t[2]? = some (.int .u32 s)) (h3 : t[3]? = some (.string m)) (h4 : t[4]? = some (.pointer (some ⟨w.heap.size + 1, 0, none⟩))) (h5 : t[5]? = some (.pointer (some ⟨w.heap.size + 1 + 1, 0, none⟩))) :
    bodyPost Tryd.prog Tryd.f93 (GetPost w s m u g gs e) Exit.ret { tmps := t, defers := [] } w1 := by
  have y0 := h.cred.c0
  have y1 := h.cred.c1
  have y2 := h.cred.c2
  have yE : w1.cell? ⟨w.heap.size + 1 + 1, 0, none⟩ = some (.int .i64 e) := h.at_.err.cell
  refine bodyPost_ret (v := .tuple #[.int .u32 s, .string m, .agg #[.int .u32 u, .int .u32 g, v], .int .i64 e]) ?_ rfl ⟨v, rfl, Kd.R_mono h.row (fun _ _ => trivial), h.at_.bel⟩
  simp [results, Tryd.results93, go_sem, h2, h3, h4, h5, y0, y1, y2, yE]
set_option maxHeartbeats 4000000 in
set_option maxRecDepth 100000 in
theorem creds_Get.calls (A0 : Option Addr) (c0 : Nat) (l0 : List Int) (r1 : Int) (r2 : ByteArray) (r3 r4 : Int) (r5 : List Int) (r6 : Int) (w : World) (hr0 : Kd.C (Kd.int .u8) w A0 l0.length l0) (hc0 : l0.length ≤ c0) (h : creds_Get.f l0 = some (r1, r2, r3, r4, r5, r6)) :
    Calls Tryd.prog 93 #[.slice A0 l0.length c0] w fun e w' => ∃ v0_ : Value, e = .returned (.tuple #[.int .u32 r1, .string r2, .agg #[.int .u32 r3, .int .u32 r4, v0_], .int .i64 r6]) ∧ Kd.R (Kd.int .u32) 22 w' w.heap.size (fun _ => True) v0_ r5 ∧ Below w.heap.size w w' := by
  unfold creds_Get.f at h
  by_cases hok : byteOk l0 = true
  · rw [if_pos hok] at h
    simp only [Option.some.injEq, Prod.mk.injEq] at h
    obtain ⟨rfl, rfl, rfl, rfl, rfl, rfl⟩ := h
    obtain ⟨a, ha⟩ : ∃ a, numG l0 0 = a := ⟨_, rfl⟩
    obtain ⟨s, hs⟩ : ∃ s, strG a.2.1 a.2.2 = s := ⟨_, rfl⟩
    obtain ⟨u, hu⟩ : ∃ u, numG s.2.1 s.2.2 = u := ⟨_, rfl⟩
    obtain ⟨g, hg⟩ : ∃ g, numG u.2.1 u.2.2 = g := ⟨_, rfl⟩
    obtain ⟨k, hk⟩ : ∃ k, numG g.2.1 g.2.2 = k := ⟨_, rfl⟩
    obtain ⟨r, hr⟩ : ∃ r, grpG k.1.toNat [] k.2.1 (limG k.1 k.2.2) = r := ⟨_, rfl⟩
    obtain ⟨z, hz⟩ : ∃ z, endG r.2.1 r.2.2 = z := ⟨_, rfl⟩
    obtain ⟨R, hR⟩ : ∃ R, credG l0 = R := ⟨_, rfl⟩
    have hR2 : (if z = 0 then (⟨a.1, s.1, u.1, g.1, r.1, 0⟩ : CredR) else ⟨0, ByteArray.empty, 0, 0, [], z⟩) = R := by
      rw [← hR]; unfold credG; subst ha; subst hs; subst hu; subst hg; subst hk; subst hr; subst hz; rfl
    rw [hR]
    have oka : byteOk a.2.1 = true := ha ▸ numG_ok hok 0
    have oks : byteOk s.2.1 = true := hs ▸ strG_ok oka _
    have oku : byteOk u.2.1 = true := hu ▸ numG_ok oks _
    have okg : byteOk g.2.1 = true := hg ▸ numG_ok oku _
    have okk : byteOk k.2.1 = true := hk ▸ numG_ok okg _
    have rk : 0 ≤ k.1 ∧ k.1 < 4294967296 := hk ▸ numG_range okg _
    have HST := Aside0.mk (St.init w A0 c0 l0 hr0 hc0)
    have HA := Aside0.mk ha
    have HS := Aside0.mk hs
    have HU := Aside0.mk hu
    have HG := Aside0.mk hg
    have HK := Aside0.mk hk
    have HR := Aside0.mk hr
    have HZ := Aside0.mk hz
    have HF := Aside0.mk hR2
    have OK0 := Aside0.mk hok
    have OKA := Aside0.mk oka
    have OKS := Aside0.mk oks
    have OKU := Aside0.mk oku
    have OKG := Aside0.mk okg
    have OKK := Aside0.mk okk
    have RK := Aside0.mk rk
    clear ha hs hu hg hk hr hz hR hR2 hok oka oks oku okg okk rk hr0 hc0
    go_enter Tryd.func93, Tryd.ntmps93
    go_upto_region 3 with (go_at_call 105; refine (number_St w _ l0 0 0 0 (.slice none 0 0) [] HST.out OK0.out).mono ?_; rintro x w1 ⟨rfl, hst⟩; rw [HA.out] at hst ⊢; have HST1 := Aside0.mk hst; clear hst HST)
    have cE : w1.cell? ⟨w.heap.size + 1 + 1, 0, none⟩ = some (.int .i64 a.2.2) := HST1.out.at_.err.cell
    go_upto_if 13 with (fail)
    go_cut [3] (fun v3 wc => v3 = .string s.1 ∧ Aside0 (St w wc s.2.1 s.2.2 0 0 (.slice none 0 0) []))
    case first =>
      by_cases he : a.2.2 = 0
      · have c9 : (a.2.2 == 0) = true := beq_iff_eq.mpr he
        have HE := Aside0.mk he
        clear he
        obtain ⟨m, n, er, hgs, hn⟩ := sget_some OKA.out
        have e9 : s = (m, a.2.1.drop n, er) := by rw [← HS.out, HE.out, strG_zero hgs]
        subst e9
        obtain ⟨A, c, hB, hc, hR⟩ := HST1.out.at_.got
        obtain ⟨A2, hcut2, hR2⟩ := from_ A a.2.1 c n n rfl hn hc
        have cB := hB.cell
        have HRB := Aside0.mk hR
        have HRC := Aside0.mk hc
        have HR2 := Aside0.mk hR2
        have HGS := Aside0.mk hgs
        have HBX := Aside0.mk hB
        clear hB hc hR hR2 hgs
        go_wp2_with fail
        refine (strings_Get.calls A c a.2.1 255 m n er _ (HRB.out _ HST1.out.at_.bel) HRC.out HGS.out).mono ?_
        rintro x w2 ⟨rfl, hb2⟩
        have HST2 := Aside0.mk (HST1.out.below hb2)
        have hB2 : Boxed w2 w.heap.size 26 (.slice A a.2.1.length c) := (hb2.block _ HBX.out.lt).trans HBX.out
        have hB3 := hB2.other (B' := w.heap.size + 1 + 1) (by omega) (.int .i64 er)
        have cB3 := hB3.cell
        have zB3 := hB3.frozen
        clear HST1 hb2 cB cE hB2 hB3
        have zE : w2.frozen? ⟨w.heap.size + 1 + 1, 0, none⟩ = false := HST2.out.at_.err.frozen
        have cE : w2.cell? ⟨w.heap.size + 1 + 1, 0, none⟩ = some (.int .i64 a.2.2) := HST2.out.at_.err.cell
        have HST3 := Aside0.mk (HST2.out.setE er)
        clear HST2
        go_wp2
        go_meet
        case rel => exact ⟨rfl, ⟨HST3.out.setB A2 (c - n) _ (by rw [List.length_drop]) (by have := HRC.out; rw [List.length_drop]; omega) (fun W h => HR2.out W (HRB.out W h))⟩⟩
      · have c9 : (a.2.2 == 0) = false := beq_eq_false_iff_ne.mpr he
        have e9 : s = (ByteArray.empty, a.2.1, a.2.2) := by rw [← HS.out, strG_else he]
        subst e9
        clear he
        go_wp2
        go_meet
        case rel => exact ⟨rfl, HST1⟩
    case rest =>
      obtain ⟨rfl, HST2⟩ := hcut
      clear HST1 cE
      go_wp2_with fail
      refine (number_St w _ _ _ 0 0 (.slice none 0 0) [] HST2.out OKS.out).mono ?_
      rintro x w3 ⟨rfl, hst⟩
      rw [HU.out] at hst ⊢
      have HST3 := Aside0.mk hst
      clear hst HST2
      go_wp2_with fail
      refine (number_St w _ _ _ 0 0 (.slice none 0 0) [] HST3.out OKU.out).mono ?_
      rintro x w4 ⟨rfl, hst⟩
      rw [HG.out] at hst ⊢
      have c0_ : w4.cell? ⟨w.heap.size + 1, 0, none⟩ = some (.int .u32 0) := hst.cred.c0
      have z0_ : w4.frozen? ⟨w.heap.size + 1, 0, none⟩ = false := hst.cred.fz 0 (by omega)
      have hst2 := hst.setU u.1
      have c1_ : (w4.setCell ⟨w.heap.size + 1, 0, none⟩ (.int .u32 u.1)).cell? ⟨w.heap.size + 1, 1, none⟩ = some (.int .u32 0) := hst2.cred.c1
      have z1_ : (w4.setCell ⟨w.heap.size + 1, 0, none⟩ (.int .u32 u.1)).frozen? ⟨w.heap.size + 1, 1, none⟩ = false := hst2.cred.fz 1 (by omega)
      have HST4 := Aside0.mk (hst2.setG g.1)
      clear hst hst2 HST3
      go_wp2_with fail
      refine (number_St w _ _ _ u.1 g.1 (.slice none 0 0) [] HST4.out OKG.out).mono ?_
      rintro x w5 ⟨rfl, hst⟩
      rw [HK.out] at hst ⊢
      have cE : w5.cell? ⟨w.heap.size + 1 + 1, 0, none⟩ = some (.int .i64 k.2.2) := hst.at_.err.cell
      have HST5 := Aside0.mk hst
      clear hst HST4 c0_ z0_ c1_ z1_
      go_upto_region 9 with (fail)
      go_cut [36] (fun v36 wc => (∃ q : Bool, v36 = .bool q ∧ Aside0 (q = (k.2.2 == 0 && decide (16 < k.1)))) ∧ Aside0 (St w wc k.2.1 k.2.2 u.1 g.1 (.slice none 0 0) []))
      case first =>
        by_cases he : k.2.2 = 0
        · have c9 : (k.2.2 == 0) = true := beq_iff_eq.mpr he
          go_wp2
          go_meet
          case rel => exact ⟨⟨_, rfl, ⟨by first | rfl | (simp [c9]; done) | (rw [c9]; simp; done)⟩⟩, HST5⟩
        · have c9 : (k.2.2 == 0) = false := beq_eq_false_iff_ne.mpr he
          go_wp2
          go_meet
          case rel => exact ⟨⟨_, rfl, ⟨by first | rfl | (simp [c9]; done) | (rw [c9]; simp; done)⟩⟩, HST5⟩
      case rest =>
        obtain ⟨⟨q, rfl, HQ⟩, HST6⟩ := hcut
        clear HST5 cE
        go_upto_if 36 with (fail)
        go_cut [36] (fun v36 wc => (∃ q : Bool, v36 = .bool q) ∧ Aside0 (St w wc k.2.1 (limG k.1 k.2.2) u.1 g.1 (.slice none 0 0) []))
        case first =>
          by_cases hlim : k.2.2 = 0 ∧ 16 < k.1
          · have c9 : (k.2.2 == 0 && decide (16 < k.1)) = true := by simp [hlim.1, hlim.2]
            have e9 : limG k.1 k.2.2 = 3 := by unfold limG; rw [if_pos hlim.1, if_pos hlim.2]
            have hq : q = true := HQ.out.trans c9
            subst hq
            clear hlim c9 HQ
            have cE : wc.cell? ⟨w.heap.size + 1 + 1, 0, none⟩ = some (.int .i64 k.2.2) := HST6.out.at_.err.cell
            have zE : wc.frozen? ⟨w.heap.size + 1 + 1, 0, none⟩ = false := HST6.out.at_.err.frozen
            have HST7 := Aside0.mk (HST6.out.setE 3)
            clear HST6
            go_wp2
            go_meet
            case rel => exact ⟨⟨_, rfl⟩, by rw [e9]; exact HST7⟩
          · have c9 : (k.2.2 == 0 && decide (16 < k.1)) = false := by
              rw [← Bool.not_eq_true]; simp; intro h1; by_cases h2 : 16 < k.1
              · exact absurd ⟨h1, h2⟩ hlim
              · omega
            have e9 : limG k.1 k.2.2 = k.2.2 := by
              unfold limG
              by_cases h1 : k.2.2 = 0
              · rw [if_pos h1, if_neg (fun h2 => hlim ⟨h1, h2⟩), h1]
              · rw [if_neg h1]
            have hq : q = false := HQ.out.trans c9
            subst hq
            clear hlim c9 HQ
            go_wp2
            go_meet
            case rel => exact ⟨⟨_, rfl⟩, by rw [e9]; exact HST6⟩
        case rest =>
          obtain ⟨⟨q2, rfl⟩, HST7⟩ := hcut
          clear HST6 HQ
          have HLZ := Aside0.mk (fun h : limG k.1 k.2.2 = 0 => limG_zero h)
          have HRR := HR
          generalize limG k.1 k.2.2 = e6 at HST7 HLZ HRR
          have hgr : grpG (k.1.toNat - ([] : List Int).length) [] k.2.1 e6 = r := HRR.out
          have HGR := Aside0.mk hgr
          clear hgr
          go_wp2_with fail
          go_loopw [40] (fun v40 wr => ∃ (gs l : List Int) (e : Int) (Av : Option Addr) (cv : Nat), Aside0 (St w wr l e u.1 g.1 (.slice Av gs.length cv) gs) ∧ Aside0 (byteOk l = true) ∧ Aside0 (e = 0 → k.1 ≤ 16) ∧ Aside0 (grpG (k.1.toNat - gs.length) gs l e = r)) (fun _ wr => grpMu (w.heap.size + 1) k.1 wr)
          case atStart => exact ⟨[], k.2.1, e6, none, 0, HST7, OKK, HLZ, HGR⟩
          case round =>
            obtain ⟨gs, l, e, Av, cv, HT, HOK, HL, HG2⟩ := hrel
            have cE : wr.cell? ⟨w.heap.size + 1 + 1, 0, none⟩ = some (.int .i64 e) := HT.out.at_.err.cell
            have cC : wr.cell? ⟨w.heap.size + 1, 2, none⟩ = some (.slice Av gs.length cv) := HT.out.cred.c2
            have zC : wr.frozen? ⟨w.heap.size + 1, 2, none⟩ = false := HT.out.cred.fz 2 (by omega)
            obtain ⟨k0, k1⟩ := RK.out
            by_cases he : e = 0
            · subst he
              by_cases hlt : (gs.length : Int) < k.1
              · have hk16 := HL.out rfl
                go_upto_region 12 with (fail)
                have hl16 : gs.length < 16 := by omega
                have HL16 := Aside0.mk hl16
                have HN := Aside0.mk (show grpG (k.1.toNat - gs.length) gs l 0 = grpG (k.1.toNat - (gs.length + 1)) (gs ++ [(numG l 0).1]) (numG l 0).2.1 (numG l 0).2.2 by
                  rw [show k.1.toNat - gs.length = (k.1.toNat - (gs.length + 1)) + 1 by omega]
                  rfl)
                have HLT := Aside0.mk hlt
                obtain ⟨n, hn⟩ : ∃ n, numG l 0 = n := ⟨_, rfl⟩
                rw [hn] at HN
                have HNE := Aside0.mk hn
                have HOKN := Aside0.mk (hn ▸ numG_ok HOK.out 0)
                clear hn hl16 hlt cE k0 k1 hk16
                go_region_law (first | (refine Kd.R_append_step (Kd.int .u32) (w0 := w) w.heap.size (by rfl) _ _ 23 22 (.int .u32 0) 4 (by rfl) Tryd.underlying23 info_t32 rfl (by decide) (by decide) (.slice Av gs.length cv) gs n.1 [.int .u32 n.1] (fun k => k ≠ w.heap.size ∧ k ≠ w.heap.size + 1 ∧ k ≠ w.heap.size + 2) (fun _ => False) (by rfl) (by rfl) rfl (fun _ h => h.elim) (fun k hk => by have := hst.at_.err.lt; omega) hst.row hst.at_.bel hst.at_.bel.size (by have := HL16.out; omega) ?_; intro v1 w1 ho1 hb1 hg1 hat1; have hs1 := hst.grown hb1 hg1 ho1; obtain ⟨A1, cv1, rfl, hle1, _⟩ := Kd.R_reads ho1; have zC1 := hs1.1.fz 2 (by omega); have cC1 := hs1.1.c2) | (go_simp; go_at_call 105; refine (number_St w _ l 0 u.1 g.1 (.slice Av gs.length cv) gs HT.out.drew HOK.out).mono ?_; rintro x wn ⟨rfl, hst⟩; rw [HNE.out] at hst ⊢; have cC2 := hst.cred.c2; have cC3 := (hst.alloc (.cells #[.int .u32 n.1] 22)).cred.c2; go_simp))
                all_goals
                  have hs2 := hs1.2
                  simp only [List.length_append, List.length_cons, List.length_nil, Nat.zero_add] at hs2
                  have m1 : grpMu (w.heap.size + 1) k.1 (w1.setCell ⟨w.heap.size + 1, 2, none⟩ (.slice A1 (gs.length + 1) cv1)) = k.1.toNat - (gs.length + 1) := by unfold grpMu; rw [hs2.cred.c2]
                  have m2 : grpMu (w.heap.size + 1) k.1 wr = k.1.toNat - gs.length := by unfold grpMu; rw [HT.out.cred.c2]
                  have HS2 := Aside0.mk hs2
                  have M1 := Aside0.mk m1
                  have M2 := Aside0.mk m2
                  clear hs1 hs2 m1 m2 hst ho1 hb1 hg1 hat1 hle1
                  go_wp2
                  go_roundw
                  case rel => exact ⟨gs ++ [n.1], n.2.1, n.2.2, A1, cv1, ⟨by simp only [List.length_append, List.length_cons, List.length_nil, Nat.zero_add]; exact HS2.out⟩, HOKN, ⟨fun _ => HL.out rfl⟩, ⟨by rw [List.length_append, List.length_singleton, ← HN.out]; exact HG2.out⟩⟩
                  case measure => show grpMu (w.heap.size + 1) k.1 _ < grpMu (w.heap.size + 1) k.1 _; have := HLT.out; rw [M1.out, M2.out]; omega
              · have hge : k.1.toNat - gs.length = 0 := by omega
                have hr3 : (gs, l, (0 : Int)) = r := by have := HG2.out; rw [hge] at this; exact this
                subst hr3
                have cl : decide ((gs.length : Int) < k.1) = false := decide_eq_false hlt
                obtain ⟨Ab, cb, hB, hcb, hRb⟩ := HT.out.at_.got
                have cB := hB.cell
                clear hB hcb hRb hge
                by_cases hl0 : l.length = 0
                · have hz : z = 0 := by rw [← HZ.out]; unfold endG; dsimp only; rw [if_pos rfl, if_neg (by omega)]
                  subst hz
                  have hF : (⟨a.1, s.1, u.1, g.1, gs, 0⟩ : CredR) = R := by have := HF.out; rw [if_pos rfl] at this; exact this
                  subst hF
                  have cl0 : decide ((0 : Int) < (l.length : Int)) = false := by rw [hl0]; rfl
                  go_wp2
                  have hc := HT.out.cred
                  have x0 := hc.c0
                  have x1 := hc.c1
                  have f0 := hc.fz 0 (by omega)
                  have f1 := hc.fz 1 (by omega)
                  have zE : wr.frozen? ⟨w.heap.size + 1 + 1, 0, none⟩ = false := HT.out.at_.err.frozen
                  clear hc
                  go_region
                  go_wp2
                  exact fin_ok ((((HT.out.setU u.1).setG g.1).setV _ (((HT.out.setU u.1).setG g.1)).row).setE 0).drew _ rfl rfl rfl rfl
                · have hz : z = 5 := by rw [← HZ.out]; unfold endG; dsimp only; rw [if_pos rfl, if_pos (by omega)]
                  subst hz
                  have hF : (⟨0, ByteArray.empty, 0, 0, [], 5⟩ : CredR) = R := by have := HF.out; rw [if_neg (by decide)] at this; exact this
                  subst hF
                  have cl0 : decide ((0 : Int) < (l.length : Int)) = true := by simp; omega
                  have zE : wr.frozen? ⟨w.heap.size + 1 + 1, 0, none⟩ = false := HT.out.at_.err.frozen
                  have hs5 := HT.out.setE 5
                  have cE5 : (wr.setCell ⟨w.heap.size + 1 + 1, 0, none⟩ (.int .i64 5)).cell? ⟨w.heap.size + 1 + 1, 0, none⟩ = some (.int .i64 5) := hs5.at_.err.cell
                  have zE5 : (wr.setCell ⟨w.heap.size + 1 + 1, 0, none⟩ (.int .i64 5)).frozen? ⟨w.heap.size + 1 + 1, 0, none⟩ = false := hs5.at_.err.frozen
                  have HS5 := Aside0.mk hs5
                  clear hs5
                  go_wp2
                  have hc := HS5.out.cred
                  have x0 := hc.c0
                  have x1 := hc.c1
                  have x2 := hc.c2
                  have f0 := hc.fz 0 (by omega)
                  have f1 := hc.fz 1 (by omega)
                  have f2 := hc.fz 2 (by omega)
                  clear hc
                  go_region
                  go_wp2
                  exact fin_ok ((((HS5.out.setU 0).setG 0).setV (.slice none 0 0) (Kd.R_nil _ _ _ _ _)).setE 5).drew _ rfl rfl rfl rfl
            · have c9 : (e == 0) = false := beq_eq_false_iff_ne.mpr he
              have hr3 : (gs, l, e) = r := by
                have := HG2.out
                cases hm : k.1.toNat - gs.length with
                | zero => rw [hm] at this; exact this
                | succ m => rw [hm] at this; unfold grpG at this; rw [if_neg he] at this; exact this
              subst hr3
              have hz : z = e := by rw [← HZ.out]; unfold endG; dsimp only; rw [if_neg he]
              subst hz
              have hF : (⟨0, ByteArray.empty, 0, 0, [], z⟩ : CredR) = R := by have := HF.out; rw [if_neg he] at this; exact this
              subst hF
              have cz9 : (z != 0) = true := by simp [bne, c9]
              have zE : wr.frozen? ⟨w.heap.size + 1 + 1, 0, none⟩ = false := HT.out.at_.err.frozen
              go_wp2
              have hc := HT.out.cred
              have x0 := hc.c0
              have x1 := hc.c1
              have f0 := hc.fz 0 (by omega)
              have f1 := hc.fz 1 (by omega)
              clear hc
              go_region
              go_wp2
              exact fin_ok ((((HT.out.setU 0).setG 0).setV (.slice none 0 0) (Kd.R_nil _ _ _ _ _)).setE _).drew _ rfl rfl rfl rfl
  · rw [if_neg hok] at h; cases h
end Go.Proofs.YtoalknneifpehaaDoor.Hand
