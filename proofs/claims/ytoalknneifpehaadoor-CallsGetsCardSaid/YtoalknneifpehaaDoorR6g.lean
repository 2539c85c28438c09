import Derived.Test.YtoalknneifpehaaDoorX6g
import Derived.Test.YtoalknneifpehaaDoorR6ag
namespace Go.Proofs.YtoalknneifpehaaDoor.Hand
open Go.RowKit Go.Proofs.YtoalknneifpehaaDoor.GB Go.Proofs.YtoalknneifpehaaDoor.GC Go.Proofs.YtoalknneifpehaaDoor.GQ Go.Proofs.YtoalknneifpehaaDoorW.PrintWords Go.Proofs.YtoalknneifpehaaDoorW.PrintLast Go.Proofs.YtoalknneifpehaaDoorW.PrintMore
set_option linter.unusedVariables false
set_option linter.unusedSimpArgs false

theorem Blk11.lt {w : World} {C : Nat} {a : Array Value} (h : Blk11 w C a) : C < w.heap.size := (Array.getElem?_eq_some_iff.1 h).1
theorem there_of6 {w : World} {C n : Nat} {a : Array Value} (h : Blk11 w C a) (hn : a.size = n) : World.there w C 0 n := fun j hj => ⟨by
  rw [show (0 + j) = j by omega, h.cell j, Array.getElem?_eq_getElem (by rw [hn]; exact hj)]; rfl, h.fz (0 + j)⟩
/-- So many of the numbers of a call are read. -/
def H7 (l : List Int) (k : Nat) (ns lk : List Int) : Prop := hdS callAsk l 0 = (ns ++ (hdS (callAsk.drop k) lk 0).1, (hdS (callAsk.drop k) lk 0).2)
theorem h7_next {l : List Int} {k : Nat} {ns lk : List Int} (h : H7 l k ns lk) (s : Option Int) (ss : List (Option Int)) (hd : callAsk.drop k = s :: ss) (hd2 : callAsk.drop (k + 1) = ss)
    (he : (if (numG lk 0).2.2 = 0 then askG s (numG lk 0).1 else (numG lk 0).2.2) = 0) : H7 l (k + 1) (ns ++ [(numG lk 0).1]) (numG lk 0).2.1 := by
  unfold H7 at *
  rw [h, hd, hd_step, he, hd2, List.append_assoc]
  rfl
theorem h7_err {l : List Int} {k : Nat} {ns lk : List Int} (h : H7 l k ns lk) (s : Option Int) (ss : List (Option Int)) (hd : callAsk.drop k = s :: ss) {e : Int}
    (he : (if (numG lk 0).2.2 = 0 then askG s (numG lk 0).1 else (numG lk 0).2.2) = e) (hne : e ≠ 0) : (hdS callAsk l 0).2.2 = e := by
  unfold H7 at h
  rw [h, hd, hd_step, he]
  exact hdS_err hne ss _
/-- Where the document's Get stands in its loop. -/
structure GR6 (w w1 wr : World) (l : List Int) (k : Nat) (V : Value) (ns : List Int) : Prop where
  be : Below w1.heap.size w1 wr
  row : Kd.R (Kd.int .u32) 22 wr (w.heap.size + 1) (fun _ => True) V ns
  nl : ns.length = k
  len : 4 * k ≤ l.length
  h7 : H7 l k ns (l.drop (4 * k))
  fla : k = 7 → rd ns 6 ≤ 1
theorem numG_of {l : List Int} (h : 4 ≤ l.length) : numG l 0 = (deB (l.take 4), l.drop 4, 0) := by unfold numG; rw [if_pos rfl, if_neg (by omega)]
theorem numG_few {l : List Int} (h : l.length < 4) : numG l 0 = (0, l, 4) := by unfold numG; rw [if_pos rfl, if_pos h]
theorem cells11 {w : World} {C : Nat} {x p v o f : Int} {m : ByteArray} {s u g : Int} {Vg Vb : Value} (h : Call11 w C x p v o f m s u g Vg Vb) : w.cell? ⟨C, 0, none⟩ = some (.int .u32 x) ∧ w.cell? ⟨C, 1, none⟩ = some (.int .u32 p) ∧ w.cell? ⟨C, 2, none⟩ = some (.int .u32 v) ∧ w.cell? ⟨C, 3, none⟩ = some (.int .u32 o) ∧ w.cell? ⟨C, 4, none⟩ = some (.int .u32 f) ∧ w.cell? ⟨C, 5, none⟩ = some (.string m) ∧ w.cell? ⟨C, 6, none⟩ = some (.int .u32 s) ∧ w.cell? ⟨C, 7, none⟩ = some (.int .u32 u) ∧ w.cell? ⟨C, 8, none⟩ = some (.int .u32 g) ∧ w.cell? ⟨C, 9, none⟩ = some (Vg) ∧ w.cell? ⟨C, 10, none⟩ = some (Vb) :=
  ⟨h.c0, h.c1, h.c2, h.c3, h.c4, h.c5, h.c6, h.c7, h.c8, h.c9, h.c10⟩
theorem whoG_autherr {f e : Int} {rest : List Int} (hq : opaque_Get.f rest 400 = some ([], 0, e)) (hne : e ≠ 0) : (whoG f rest 0).1.e = e := by
  unfold whoG authG
  rw [if_pos rfl, hq]
  dsimp only
  rw [if_neg hne]
  rfl
theorem authG_got {rest X : List Int} {N : Nat} (hq : opaque_Get.f rest 400 = some (X, (N : Int), 0)) : authG rest 0 = (X, rest.drop N, 0) := by
  unfold authG
  rw [if_pos rfl, hq]
  rfl
theorem authG_bad {rest : List Int} {e : Int} (hq : opaque_Get.f rest 400 = some ([], 0, e)) : authG rest 0 = ([], rest, e) := by
  unfold authG
  rw [if_pos rfl, hq]
  rfl
theorem whoG_zero {rest X r2 : List Int} (h : authG rest 0 = (X, r2, 0)) : whoG 0 rest 0 = (credZ (if X = [] then 0 else 5), r2) := by
  unfold whoG
  rw [h]
  rfl
theorem whoG_one {rest X r2 : List Int} (h : authG rest 0 = (X, r2, 0)) : whoG 1 rest 0 = (credG X, r2) := by
  unfold whoG
  rw [h]
  rfl
theorem sureG_few {r : List Int} (h : r.length < 4) : (sureG r 0).2 = 4 := by
  unfold sureG mustE
  rw [numG_few h]
  dsimp only
  rw [if_neg (show ¬ (4 : Int) = 0 by decide), authG_err _ (show (4 : Int) ≠ 0 by decide)]
  rfl
theorem sureG_ne {r : List Int} {n : Int} (hn : numG r 0 = (n, r.drop 4, 0)) (h : n ≠ 0) : (sureG r 0).2 = 5 := by
  unfold sureG mustE
  rw [hn]
  dsimp only
  rw [if_pos rfl, show askG (some 0) n = 5 by unfold askG; dsimp only; rw [if_neg h], authG_err _ (show (5 : Int) ≠ 0 by decide)]
  rfl
theorem sureG_is {r Y r4 : List Int} {e : Int} (hn : numG r 0 = (0, r.drop 4, 0)) (h : authG (r.drop 4) 0 = (Y, r4, e)) : sureG r 0 = (r4, if e = 0 then (if Y = [] then 0 else 5) else e) := by
  unfold sureG mustE
  rw [hn]
  dsimp only
  rw [if_pos rfl, show askG (some 0) 0 = 0 from rfl, h]
/-- What is carried through the end of the document's Get. -/
structure GE (w wk : World) (K : Nat) (x p v o f : Int) (M : ByteArray) (S U G : Int) (VG : Value) (A : Option Addr) (rest : List Int) : Prop where
  be : Below w.heap.size w wk
  z : Blk11 wk w.heap.size #[.int .u32 0, .int .u32 0, .int .u32 0, .int .u32 0, .int .u32 0, .string ⟨#[]⟩, .int .u32 0, .int .u32 0, .int .u32 0, .slice none 0 0, .slice none 0 0]
  k : Call11 wk K x p v o f M S U G VG (.slice none 0 0)
  r : RB wk A rest
  low : w.heap.size < K
theorem GE.step {w wk w1 : World} {K : Nat} {x p v o f : Int} {M : ByteArray} {S U G : Int} {VG : Value} {A : Option Addr} {rest : List Int} (h : GE w wk K x p v o f M S U G VG A rest) (hb : Below wk.heap.size wk w1) : GE w w1 K x p v o f M S U G VG A rest :=
  ⟨below_then h.be h.be.size hb, (hb.block _ (Nat.lt_trans h.low h.k.lt)).trans h.z, h.k.below hb, Kd.C_below h.r hb, h.low⟩
theorem r2get {l : List Int} {X : List Int} {n e : Int} (hb : byteOk l = true) (hl : l.length ≤ 140737488351232) (h : opaque_Get.f l 400 = some (X, n, e)) : wharfingerref02_Get.f l 400 = some (X, n, e) := by
  unfold wharfingerref02_Get.f; rw [if_pos ⟨hb, hl⟩]; exact h
set_option maxHeartbeats 8000000 in
set_option maxRecDepth 100000 in
theorem ref06_Get_calls (A : Option Addr) (c : Nat) (l : List Int) (w : World) (hR : RB w A l) (hc : l.length ≤ c) (hok : byteOk l = true) :
    Calls Tryd.prog 16 #[.slice A l.length c] w fun y w' => ∃ Vg Vb, y = .returned (.tuple #[.agg #[.int .u32 (callG l).x, .int .u32 (callG l).p, .int .u32 (callG l).v, .int .u32 (callG l).o, .int .u32 (callG l).f, .string (callG l).m, .int .u32 (callG l).s, .int .u32 (callG l).u, .int .u32 (callG l).g, Vg, Vb], .int .i64 (callG l).e]) ∧ Kd.R (Kd.int .u32) 22 w' w.heap.size (fun _ => True) Vg (callG l).gs ∧ Kd.R (Kd.int .u8) 5 w' w.heap.size (fun _ => True) Vb (callG l).b ∧ Below w.heap.size w w' := by
  obtain ⟨w1, hw1⟩ : ∃ w1, w.alloc (.cells #[.int .u32 0, .int .u32 0, .int .u32 0, .int .u32 0, .int .u32 0, .string ⟨#[]⟩, .int .u32 0, .int .u32 0, .int .u32 0, .slice none 0 0, .slice none 0 0] 28) = w1 := ⟨_, rfl⟩
  have hb1 : Below w.heap.size w w1 := hw1 ▸ below_alloc (Below.refl _ _) _
  have hz1 : Blk11 w1 w.heap.size #[.int .u32 0, .int .u32 0, .int .u32 0, .int .u32 0, .int .u32 0, .string ⟨#[]⟩, .int .u32 0, .int .u32 0, .int .u32 0, .slice none 0 0, .slice none 0 0] := hw1 ▸ call11_new w 0 0 0 0 0 ⟨#[]⟩ 0 0 0 (.slice none 0 0) (.slice none 0 0)
  have HS1 := Aside0.mk (show w1.heap.size = w.heap.size + 1 by rw [← hw1]; simp)
  have HB1 := Aside0.mk hb1
  have HZ1 := Aside0.mk hz1
  have HW1 := Aside0.mk hw1
  have HR := Aside0.mk (Kd.C_below hR hb1)
  have HR0 := Aside0.mk hR
  have HC := Aside0.mk hc
  have HOK := Aside0.mk hok
  clear hR hc hok hw1 hb1 hz1
  go_enter Tryd.func16, Tryd.ntmps16
  by_cases hbig : 65536 < l.length
  · have q1 : decide ((l.length : Int) > 65536) = true := decide_eq_true (by omega)
    have HG := Aside0.mk (show callG l = callZ 3 by unfold callG; rw [if_pos hbig])
    have hzz : Blk11 (w.alloc (.cells #[.int .u32 0, .int .u32 0, .int .u32 0, .int .u32 0, .int .u32 0, .string ⟨#[]⟩, .int .u32 0, .int .u32 0, .int .u32 0, .slice none 0 0, .slice none 0 0] 28)) w.heap.size #[.int .u32 0, .int .u32 0, .int .u32 0, .int .u32 0, .int .u32 0, .string ⟨#[]⟩, .int .u32 0, .int .u32 0, .int .u32 0, .slice none 0 0, .slice none 0 0] := by rw [HW1.out]; exact HZ1.out
    have hbb : Below w.heap.size w (w.alloc (.cells #[.int .u32 0, .int .u32 0, .int .u32 0, .int .u32 0, .int .u32 0, .string ⟨#[]⟩, .int .u32 0, .int .u32 0, .int .u32 0, .slice none 0 0, .slice none 0 0] 28)) := by rw [HW1.out]; exact HB1.out
    clear hbig
    have HTH := there_of6 hzz rfl
    have hbz := hbb
    go_wp2_with (with_reducible refine gate_store (t := 28) rfl ?_; refine wpList_store_mid rfl 28 (.tmp 2) (.tmp 17) rfl w.heap.size 0 #[.int .u32 0, .int .u32 0, .int .u32 0, .int .u32 0, .int .u32 0, .string ⟨#[]⟩, .int .u32 0, .int .u32 0, .int .u32 0, .slice none 0 0, .slice none 0 0] rfl rfl HTH (by kernel_rfl) (by simp [Value.oneCell']) ?_; generalize hws : World.setCells _ w.heap.size 0 _ = ws)
    have kz : Blk11 ws w.heap.size #[.int .u32 0, .int .u32 0, .int .u32 0, .int .u32 0, .int .u32 0, .string ⟨#[]⟩, .int .u32 0, .int .u32 0, .int .u32 0, .slice none 0 0, .slice none 0 0] := by
      have h := Blk11.sets [.int .u32 0, .int .u32 0, .int .u32 0, .int .u32 0, .int .u32 0, .string ⟨#[]⟩, .int .u32 0, .int .u32 0, .int .u32 0, .slice none 0 0, .slice none 0 0] 0 _ _ hzz
      rw [sets11] at h
      rw [← hws]
      exact h
    have HBZ : Below w.heap.size w ws := by rw [← hws]; exact below_setCells w.heap.size (Nat.le_refl _) _ _ _ hbz
    have r0 := kz.cell 0; have r1 := kz.cell 1; have r2 := kz.cell 2; have r3 := kz.cell 3; have r4 := kz.cell 4; have r5 := kz.cell 5; have r6 := kz.cell 6; have r7 := kz.cell 7; have r8 := kz.cell 8; have r9 := kz.cell 9; have r10 := kz.cell 10
    have hcg : callG l = callZ 3 := HG.out
    refine bodyPost_ret (v := .tuple #[.agg #[.int .u32 0, .int .u32 0, .int .u32 0, .int .u32 0, .int .u32 0, .string ⟨#[]⟩, .int .u32 0, .int .u32 0, .int .u32 0, .slice none 0 0, .slice none 0 0], .int .i64 3]) (by simp [results, Tryd.results16, go_sem, r0, r1, r2, r3, r4, r5, r6, r7, r8, r9, r10] <;> rfl) rfl ⟨.slice none 0 0, .slice none 0 0, ?_, ?_, ?_, HBZ⟩
    · rw [hcg]; rfl
    · rw [hcg]; exact Kd.R_nil _ _ _ _ _
    · rw [hcg]; exact Kd.R_nil _ _ _ _ _
  · have q1 : decide ((l.length : Int) > 65536) = false := decide_eq_false (by omega)
    have HCG := Aside0.mk (show callG l = callH l by unfold callG; rw [if_neg hbig])
    have HBIG := Aside0.mk hbig
    clear hbig
    go_wp2_with fail
    rw [HW1.out]
    clear q1
    go_loopw [4, 5] (fun v4 v5 wr => ∃ (k : Nat) (ns : List Int), k ≤ 7 ∧ v5 = .int .i64 k ∧ GR6 w w1 wr l k v4 ns) (fun _ v5 _ => 7 - (intOf v5).toNat)
    case atStart => exact ⟨0, [], Nat.zero_le _, rfl, Below.refl _ _, Kd.R_nil _ _ _ _ _, rfl, by omega, by unfold H7; rw [Nat.mul_zero, List.drop_zero]; rfl, fun h => absurd h (by decide)⟩
    case round =>
      obtain ⟨k, ns, hk, rfl, hg⟩ := hrel
      obtain ⟨A4, c4, rfl, hc4, _⟩ := Kd.R_reads hg.row
      have HGR := Aside0.mk hg
      have HBE := Aside0.mk (below_then HB1.out (by have := HS1.out; omega) hg.be : Below w.heap.size w wr)
      have HZR := Aside0.mk (show Blk11 wr w.heap.size #[.int .u32 0, .int .u32 0, .int .u32 0, .int .u32 0, .int .u32 0, .string ⟨#[]⟩, .int .u32 0, .int .u32 0, .int .u32 0, .slice none 0 0, .slice none 0 0] from (hg.be.block _ (by have := HS1.out; omega)).trans HZ1.out)
      have HRR := Aside0.mk (Kd.C_below HR.out hg.be)
      have HLK := Aside0.mk hg.len
      clear hg hc4
      by_cases h7 : k = 7
      · subst h7
        obtain ⟨rest, hrest⟩ : ∃ rest, l.drop 28 = rest := ⟨_, rfl⟩
        have hHH : hdS callAsk l 0 = (ns, rest, 0) := by
          have h := HGR.out.h7
          unfold H7 at h
          rw [h, show 4 * 7 = 28 from rfl, hrest]
          show (ns ++ [], rest, 0) = _
          rw [List.append_nil]
        have hfit := (hdS_inv callAsk l ns rest HOK.out hHH).1
        obtain ⟨x, p, v, o, f, rfl, rx, rp, rv, ro, rf⟩ := fits7 hfit
        have hf1 : f ≤ 1 := HGR.out.fla rfl
        have hf : f = 0 ∨ f = 1 := by have := rf.1; omega
        have HF0 := Aside0.mk (show flaG (rd (hdS callAsk l 0).1 6) (hdS callAsk l 0).2.2 = 0 by rw [hHH]; exact flaG_ok hf)
        have HHH := Aside0.mk hHH
        have HFF := Aside0.mk hf
        have hrow := HGR.out.row
        obtain ⟨ga, rfl⟩ : ∃ ga, A4 = some ⟨ga, 0, none⟩ := by
          cases A4 with
          | none =>
            obtain ⟨_, _, hr⟩ := Kd.R_reads' hrow
            obtain ⟨ad, h1, _⟩ := hr.2.2 (by simp)
            cases h1
          | some ad =>
            obtain ⟨g, rfl⟩ := Kd.R_head hrow
            exact ⟨g, rfl⟩
        have hcell := fun i h0 hi => (Kd.R_cell (h1 := fun _ => rfl) (0 : Int) (show (Kd.scalar (Value.int .u32) (fun _ => rfl)).R 22 wr (w.heap.size + 1) (fun _ => True) (.slice (some ⟨ga, 0, none⟩) [x, 0, 2, p, v, o, f].length c4) [x, 0, 2, p, v, o, f] from hrow) i h0 hi).1
        have a0 : wr.cell? ⟨ga, 0, none⟩ = some (.int .u32 x) := hcell 0 (by decide) (by simp)
        have a3 : wr.cell? ⟨ga, 3, none⟩ = some (.int .u32 p) := hcell 3 (by decide) (by simp)
        have a4 : wr.cell? ⟨ga, 4, none⟩ = some (.int .u32 v) := hcell 4 (by decide) (by simp)
        have a5 : wr.cell? ⟨ga, 5, none⟩ = some (.int .u32 o) := hcell 5 (by decide) (by simp)
        have a6 : wr.cell? ⟨ga, 6, none⟩ = some (.int .u32 f) := hcell 6 (by decide) (by simp)
        obtain ⟨A28, hcut, hR28⟩ := from_ A l c 28 28 rfl HLK.out HC.out
        have HRST := Aside0.mk (hrest ▸ hR28 wr HRR.out : RB wr A28 rest)
        have hll : l.length - 28 = rest.length := by rw [← hrest, List.length_drop]
        rw [hll] at hcut
        have HLL := Aside0.mk hll
        have HRB := Aside0.mk (hrest ▸ byteOk_drop HOK.out 28 : byteOk rest = true)
        have HRF := Aside0.mk (show ∀ W, RB W A l → RB W A28 rest from fun W h => hrest ▸ hR28 W h)
        clear hrest hHH hfit rx rp rv ro hf1 hf hrow hcell hR28 hll hk rf
        have HCA := Aside0.mk (show wr.drew.cell? ⟨ga, 0, none⟩ = some (.int .u32 x) ∧ wr.drew.cell? ⟨ga, 3, none⟩ = some (.int .u32 p) ∧ wr.drew.cell? ⟨ga, 4, none⟩ = some (.int .u32 v) ∧ wr.drew.cell? ⟨ga, 5, none⟩ = some (.int .u32 o) ∧ wr.drew.cell? ⟨ga, 6, none⟩ = some (.int .u32 f) from ⟨a0, a3, a4, a5, a6⟩)
        go_wp2_with fail
        go_region_held3 (fun w' => w'.cell? ⟨ga, 0, none⟩ = some (.int .u32 x) ∧ w'.cell? ⟨ga, 3, none⟩ = some (.int .u32 p) ∧ w'.cell? ⟨ga, 4, none⟩ = some (.int .u32 v) ∧ w'.cell? ⟨ga, 5, none⟩ = some (.int .u32 o) ∧ w'.cell? ⟨ga, 6, none⟩ = some (.int .u32 f)) (first | with_reducible exact HCA.out | go_keep) (fail)
        have HRL := Aside0.mk (show rest.length ≤ 140737488351232 by have h1 := HLL.out; have h2 := HBIG.out; omega)
        obtain ⟨w2, hw2⟩ : ∃ w2, (wr.alloc (.cells #[.int .u32 x, .int .u32 p, .int .u32 v, .int .u32 o, .int .u32 f, .string ⟨#[]⟩, .int .u32 0, .int .u32 0, .int .u32 0, .slice none 0 0, .slice none 0 0] 28)).drew = w2 := ⟨_, rfl⟩
        have hbk : Below wr.heap.size wr w2 := hw2 ▸ below_drew1 (below_alloc (Below.refl _ _) _)
        have HG2 := Aside0.mk (show GE w w2 wr.heap.size x p v o f ⟨#[]⟩ 0 0 0 (.slice none 0 0) A28 rest from ⟨below_then HBE.out HBE.out.size hbk, (hbk.block _ (Blk11.lt HZR.out)).trans HZR.out, hw2 ▸ (call11_new wr x p v o f ⟨#[]⟩ 0 0 0 (.slice none 0 0) (.slice none 0 0) : _), Kd.C_below HRST.out hbk, Blk11.lt HZR.out⟩)
        rw [hw2]
        clear hbk hw2 a0 a3 a4 a5 a6 hcut HCA HGR HZR HRR HRST
        rcases get_again rest 400 HRB.out with ⟨ea, hea, hq⟩ | ⟨X, N, hq, hN, hX4, hpx, hXb, _⟩
        · have HCL := Aside0.mk (wharfingerref02_Get.calls A28 (c - 28) rest 400 [] 0 ea w2 HG2.out.r (by have := HLL.out; have := HC.out; omega) (r2get HRB.out HRL.out hq))
          have HER := Aside0.mk (show callG l = callZ ea by
            rw [HCG.out]
            exact callH_who HF0.out (by rw [HHH.out]; exact whoG_autherr hq hea) hea)
          have qe : (ea != 0) = true := bne_iff_ne.mpr hea
          clear hea hq
          go_wp2_with fail
          refine HCL.out.mono ?_
          rintro e w3 ⟨v3, rfl, ho3, hb3⟩
          obtain ⟨A3, c3, rfl, _⟩ := OB_reads ho3
          have HG3 := Aside0.mk (HG2.out.step hb3)
          clear hb3 ho3 HCL
          have HTH := there_of6 HG3.out.z rfl
          have hbz := HG3.out.be
          go_wp2_with (with_reducible refine gate_store (t := 28) rfl ?_; refine wpList_store_mid rfl 28 (.tmp 2) (.tmp 87) rfl w.heap.size 0 #[.int .u32 0, .int .u32 0, .int .u32 0, .int .u32 0, .int .u32 0, .string ⟨#[]⟩, .int .u32 0, .int .u32 0, .int .u32 0, .slice none 0 0, .slice none 0 0] rfl rfl HTH (by kernel_rfl) (by simp [Value.oneCell']) ?_; generalize hws : World.setCells _ w.heap.size 0 _ = ws)
          have kz : Blk11 ws w.heap.size #[.int .u32 0, .int .u32 0, .int .u32 0, .int .u32 0, .int .u32 0, .string ⟨#[]⟩, .int .u32 0, .int .u32 0, .int .u32 0, .slice none 0 0, .slice none 0 0] := by
            have h := Blk11.sets [.int .u32 0, .int .u32 0, .int .u32 0, .int .u32 0, .int .u32 0, .string ⟨#[]⟩, .int .u32 0, .int .u32 0, .int .u32 0, .slice none 0 0, .slice none 0 0] 0 _ _ HG3.out.z
            rw [sets11] at h
            rw [← hws]
            exact h
          have HBZ : Below w.heap.size w ws := by rw [← hws]; exact below_setCells w.heap.size (Nat.le_refl _) _ _ _ hbz
          have r0 := kz.cell 0; have r1 := kz.cell 1; have r2 := kz.cell 2; have r3 := kz.cell 3; have r4 := kz.cell 4; have r5 := kz.cell 5; have r6 := kz.cell 6; have r7 := kz.cell 7; have r8 := kz.cell 8; have r9 := kz.cell 9; have r10 := kz.cell 10
          have hcg : callG l = callZ ea := HER.out
          refine bodyPost_ret (v := .tuple #[.agg #[.int .u32 0, .int .u32 0, .int .u32 0, .int .u32 0, .int .u32 0, .string ⟨#[]⟩, .int .u32 0, .int .u32 0, .int .u32 0, .slice none 0 0, .slice none 0 0], .int .i64 ea]) (by simp [results, Tryd.results16, go_sem, r0, r1, r2, r3, r4, r5, r6, r7, r8, r9, r10] <;> rfl) rfl ⟨.slice none 0 0, .slice none 0 0, ?_, ?_, ?_, HBZ⟩
          · rw [hcg]; rfl
          · rw [hcg]; exact Kd.R_nil _ _ _ _ _
          · rw [hcg]; exact Kd.R_nil _ _ _ _ _
        · have HCL := Aside0.mk (wharfingerref02_Get.calls A28 (c - 28) rest 400 X N 0 w2 HG2.out.r (by have := HLL.out; have := HC.out; omega) (r2get HRB.out HRL.out hq))
          have HAU := Aside0.mk (authG_got hq)
          obtain ⟨A18, hcut, hR18⟩ := from_ A28 rest (c - 28) N (N : Int) rfl hN (by have := HLL.out; have := HC.out; omega)
          obtain ⟨r2, hr2⟩ : ∃ r2, rest.drop N = r2 := ⟨_, rfl⟩
          have HR2E := Aside0.mk hr2
          have hl2 : rest.length - N = r2.length := by rw [← hr2, List.length_drop]
          rw [hr2] at HAU hR18
          rw [hl2] at hcut
          have HR18 := Aside0.mk hR18
          have HB2 := Aside0.mk (hr2 ▸ byteOk_drop HRB.out N : byteOk r2 = true)
          have HL2 := Aside0.mk (show r2.length ≤ c - 28 - N by have h1 := HLL.out; have h2 := HC.out; omega)
          have HL2b := Aside0.mk (show r2.length ≤ 140737488351232 by have h1 := HRL.out; omega)
          have HXB := Aside0.mk hXb
          have HX4 := Aside0.mk hX4
          clear hq hN hX4 hpx hXb hr2 hl2 hR18
          go_wp2_with fail
          refine HCL.out.mono ?_
          rintro e w3 ⟨v3, rfl, ho3, hb3⟩
          obtain ⟨A3, c3, rfl, hc3, hR3⟩ := OB_reads ho3
          have HG3 := Aside0.mk (HG2.out.step hb3)
          have HR3 := Aside0.mk hR3
          have HC3 := Aside0.mk hc3
          have y4 := HG3.out.k.c4
          clear hb3 ho3 HCL hR3 hc3 HG2
          rcases HFF.out with hf | hf
          · subst hf
            have HWZ := Aside0.mk (whoG_zero HAU.out)
            by_cases hx0 : X = []
            · subst hx0
              have HWE := Aside0.mk (show (whoG (rd (hdS callAsk l 0).1 6) (hdS callAsk l 0).2.1 0).1.e = 0 by rw [HHH.out]; show (whoG 0 rest 0).1.e = 0; rw [HWZ.out, if_pos rfl]; rfl)
              have HWR := Aside0.mk (show (whoG (rd (hdS callAsk l 0).1 6) (hdS callAsk l 0).2.1 0).2 = r2 by rw [HHH.out]; show (whoG 0 rest 0).2 = r2; rw [HWZ.out])
              have HWX := Aside0.mk (show (whoG (rd (hdS callAsk l 0).1 6) (hdS callAsk l 0).2.1 0).1 = credZ 0 by rw [HHH.out]; show (whoG 0 rest 0).1 = credZ 0; rw [HWZ.out, if_pos rfl])
              go_wp2_with fail
              refine (ref01_Get_calls A18 (c - 28 - N) r2 w3 (HR18.out w3 HG3.out.r) HL2.out (byteOk_take HB2.out 4)).mono ?_
              rintro e wq ⟨rfl, rfl⟩
              clear y4
              by_cases hsh : r2.length < 4
              · have HER := Aside0.mk (show callG l = callZ 4 by
                  rw [HCG.out]
                  exact callH_sure HF0.out HWE.out (by rw [HWR.out]; exact sureG_few hsh) (by decide))
                rw [if_pos hsh, if_pos hsh]
                clear hsh
                have HTH := there_of6 HG3.out.z rfl
                have hbz := HG3.out.be
                go_wp2_with (with_reducible refine gate_store (t := 28) rfl ?_; refine wpList_store_mid rfl 28 (.tmp 2) (.tmp 125) rfl w.heap.size 0 #[.int .u32 0, .int .u32 0, .int .u32 0, .int .u32 0, .int .u32 0, .string ⟨#[]⟩, .int .u32 0, .int .u32 0, .int .u32 0, .slice none 0 0, .slice none 0 0] rfl rfl HTH (by kernel_rfl) (by simp [Value.oneCell']) ?_; generalize hws : World.setCells _ w.heap.size 0 _ = ws)
                have kz : Blk11 ws w.heap.size #[.int .u32 0, .int .u32 0, .int .u32 0, .int .u32 0, .int .u32 0, .string ⟨#[]⟩, .int .u32 0, .int .u32 0, .int .u32 0, .slice none 0 0, .slice none 0 0] := by
                  have h := Blk11.sets [.int .u32 0, .int .u32 0, .int .u32 0, .int .u32 0, .int .u32 0, .string ⟨#[]⟩, .int .u32 0, .int .u32 0, .int .u32 0, .slice none 0 0, .slice none 0 0] 0 _ _ HG3.out.z
                  rw [sets11] at h
                  rw [← hws]
                  exact h
                have HBZ : Below w.heap.size w ws := by rw [← hws]; exact below_setCells w.heap.size (Nat.le_refl _) _ _ _ hbz
                have r0 := kz.cell 0; have r1 := kz.cell 1; have r2 := kz.cell 2; have r3 := kz.cell 3; have r4 := kz.cell 4; have r5 := kz.cell 5; have r6 := kz.cell 6; have r7 := kz.cell 7; have r8 := kz.cell 8; have r9 := kz.cell 9; have r10 := kz.cell 10
                have hcg : callG l = callZ 4 := HER.out
                refine bodyPost_ret (v := .tuple #[.agg #[.int .u32 0, .int .u32 0, .int .u32 0, .int .u32 0, .int .u32 0, .string ⟨#[]⟩, .int .u32 0, .int .u32 0, .int .u32 0, .slice none 0 0, .slice none 0 0], .int .i64 4]) (by simp [results, Tryd.results16, go_sem, r0, r1, r2, r3, r4, r5, r6, r7, r8, r9, r10] <;> rfl) rfl ⟨.slice none 0 0, .slice none 0 0, ?_, ?_, ?_, HBZ⟩
                · rw [hcg]; rfl
                · rw [hcg]; exact Kd.R_nil _ _ _ _ _
                · rw [hcg]; exact Kd.R_nil _ _ _ _ _
              · rw [if_neg hsh, if_neg hsh]
                have HN := Aside0.mk (numG_of (Nat.le_of_not_lt hsh))
                have h4 : 4 ≤ r2.length := Nat.le_of_not_lt hsh
                obtain ⟨n, hn⟩ : ∃ n, deB (r2.take 4) = n := ⟨_, rfl⟩
                rw [hn] at HN ⊢
                clear hsh hn
                by_cases hn0 : n = 0
                · subst hn0
                  obtain ⟨A30, hcut3, hR30⟩ := from_ A18 r2 (c - 28 - N) 4 4 rfl h4 HL2.out
                  obtain ⟨r3, hr3⟩ : ∃ r3, r2.drop 4 = r3 := ⟨_, rfl⟩
                  have hl3 : r2.length - 4 = r3.length := by rw [← hr3, List.length_drop]
                  rw [hl3] at hcut3
                  rw [hr3] at hR30
                  have HN0 := Aside0.mk (show numG r2 0 = (0, r3, 0) by rw [HN.out, hr3])
                  have HB3 := Aside0.mk (hr3 ▸ byteOk_drop HB2.out 4 : byteOk r3 = true)
                  have HL3 := Aside0.mk (show r3.length ≤ c - 28 - N - 4 ∧ r3.length ≤ 140737488351232 ∧ r3.length + 4 = r2.length by have h1 := HL2.out; have h2 := HL2b.out; omega)
                  have HR3E := Aside0.mk hr3
                  have HR30 := Aside0.mk (hR30 w3 (HR18.out w3 HG3.out.r))
                  clear hr3 hl3 hR30 HN h4
                  rcases get_again r3 400 HB3.out with ⟨eb, heb, hq⟩ | ⟨Y, M2, hq, hM2, hY4, hpy, hYb, _⟩
                  · have HCL := Aside0.mk (wharfingerref02_Get.calls A30 (c - 28 - N - 4) r3 400 [] 0 eb w3 HR30.out HL3.out.1 (r2get HB3.out HL3.out.2.1 hq))
                    have HER := Aside0.mk (show callG l = callZ eb by
                      rw [HCG.out]
                      have hsu := sureG_is (show numG r2 0 = (0, r2.drop 4, 0) by rw [HN0.out, HR3E.out]) (show authG (r2.drop 4) 0 = ([], r3, eb) by rw [HR3E.out]; exact authG_bad hq)
                      rw [if_neg heb] at hsu
                      exact callH_sure HF0.out HWE.out (show _ = eb by rw [HWR.out, hsu]) heb)
                    have qe : (eb != 0) = true := bne_iff_ne.mpr heb
                    clear heb hq
                    go_wp2_with fail
                    refine HCL.out.mono ?_
                    rintro e w6 ⟨v6, rfl, ho6, hb6⟩
                    obtain ⟨A6, c6, rfl, _⟩ := OB_reads ho6
                    have HG6 := Aside0.mk (HG3.out.step hb6)
                    clear hb6 ho6 HCL
                    have HTH := there_of6 HG6.out.z rfl
                    have hbz := HG6.out.be
                    go_wp2_with (with_reducible refine gate_store (t := 28) rfl ?_; refine wpList_store_mid rfl 28 (.tmp 2) (.tmp 139) rfl w.heap.size 0 #[.int .u32 0, .int .u32 0, .int .u32 0, .int .u32 0, .int .u32 0, .string ⟨#[]⟩, .int .u32 0, .int .u32 0, .int .u32 0, .slice none 0 0, .slice none 0 0] rfl rfl HTH (by kernel_rfl) (by simp [Value.oneCell']) ?_; generalize hws : World.setCells _ w.heap.size 0 _ = ws)
                    have kz : Blk11 ws w.heap.size #[.int .u32 0, .int .u32 0, .int .u32 0, .int .u32 0, .int .u32 0, .string ⟨#[]⟩, .int .u32 0, .int .u32 0, .int .u32 0, .slice none 0 0, .slice none 0 0] := by
                      have h := Blk11.sets [.int .u32 0, .int .u32 0, .int .u32 0, .int .u32 0, .int .u32 0, .string ⟨#[]⟩, .int .u32 0, .int .u32 0, .int .u32 0, .slice none 0 0, .slice none 0 0] 0 _ _ HG6.out.z
                      rw [sets11] at h
                      rw [← hws]
                      exact h
                    have HBZ : Below w.heap.size w ws := by rw [← hws]; exact below_setCells w.heap.size (Nat.le_refl _) _ _ _ hbz
                    have r0 := kz.cell 0; have r1 := kz.cell 1; have r2 := kz.cell 2; have r3 := kz.cell 3; have r4 := kz.cell 4; have r5 := kz.cell 5; have r6 := kz.cell 6; have r7 := kz.cell 7; have r8 := kz.cell 8; have r9 := kz.cell 9; have r10 := kz.cell 10
                    have hcg : callG l = callZ eb := HER.out
                    refine bodyPost_ret (v := .tuple #[.agg #[.int .u32 0, .int .u32 0, .int .u32 0, .int .u32 0, .int .u32 0, .string ⟨#[]⟩, .int .u32 0, .int .u32 0, .int .u32 0, .slice none 0 0, .slice none 0 0], .int .i64 eb]) (by simp [results, Tryd.results16, go_sem, r0, r1, r2, r3, r4, r5, r6, r7, r8, r9, r10] <;> rfl) rfl ⟨.slice none 0 0, .slice none 0 0, ?_, ?_, ?_, HBZ⟩
                    · rw [hcg]; rfl
                    · rw [hcg]; exact Kd.R_nil _ _ _ _ _
                    · rw [hcg]; exact Kd.R_nil _ _ _ _ _
                  · have HCL := Aside0.mk (wharfingerref02_Get.calls A30 (c - 28 - N - 4) r3 400 Y M2 0 w3 HR30.out HL3.out.1 (r2get HB3.out HL3.out.2.1 hq))
                    have HSU := Aside0.mk (show sureG r2 0 = (r3.drop M2, if Y = [] then 0 else 5) by
                      have h := sureG_is (show numG r2 0 = (0, r2.drop 4, 0) by rw [HN0.out, HR3E.out]) (show authG (r2.drop 4) 0 = (Y, r3.drop M2, 0) by rw [HR3E.out]; exact authG_got hq)
                      rw [if_pos rfl] at h
                      exact h)
                    have HM2 := Aside0.mk hM2
                    clear hq hM2 hY4 hpy hYb
                    go_wp2_with fail
                    refine HCL.out.mono ?_
                    rintro e w6 ⟨v6, rfl, ho6, hb6⟩
                    obtain ⟨A6, c6, rfl, _⟩ := OB_reads ho6
                    have HG6 := Aside0.mk (HG3.out.step hb6)
                    have HV6 := Aside0.mk (Kd.R_below (Kd.R_nil (Kd.int .u32) 22 w3 (wr.heap.size + 1) (fun _ => True)) hb6)
                    clear hb6 ho6 HCL hcut3
                    by_cases hy0 : Y = []
                    · subst hy0
                      obtain ⟨r4, hr4⟩ : ∃ r4, r3.drop M2 = r4 := ⟨_, rfl⟩
                      have HREC := Aside0.mk (show callG l = ⟨x, p, v, o, 0, ByteArray.empty, 0, 0, 0, [], r4, 0⟩ by
                        rw [HCG.out]
                        unfold callH
                        dsimp only
                        rw [HF0.out, HWE.out, HWR.out, HSU.out, if_pos (show (if ([] : List Int) = [] then (0 : Int) else 5) = 0 from if_pos rfl), HWX.out, HHH.out, hr4]
                        rfl)
                      have hm := HM2.out
                      have hl3 := HL3.out
                      obtain ⟨A35, hcut5, hR35⟩ := from_ A18 r2 (c - 28 - N) (4 + M2) (4 + (M2 : Int)) (by omega) (by omega) HL2.out
                      have hl4 : r2.length - (4 + M2) = r4.length := by rw [← hr4, List.length_drop]; omega
                      rw [hl4] at hcut5
                      have HR35 := Aside0.mk (show RB w6 A35 r4 by
                        have h := hR35 w6 (HR18.out w6 HG6.out.r)
                        rw [show r2.drop (4 + M2) = r4 by rw [← hr4, ← HR3E.out, List.drop_drop]] at h
                        exact h)
                      have HM3 := Aside0.mk (show M2 ≤ 140737488351232 by omega)
                      have HL4 := Aside0.mk (show (([] : List Int).length + r4.length) * 1 ≤ 140737488355328 by have := HL2b.out; simp; omega)
                      have hm3 := HM3.out
                      have hwi : IntKind.i64.wrap (4 + (M2 : Int)) = 4 + (M2 : Int) := by rw [IntKind.wrap_i64]; omega
                      have y10 := HG6.out.k.c10
                      have z10 := HG6.out.k.fz 10
                      have HK6 := Aside0.mk HG6.out.k
                      clear hr4 hR35 hl4 hm hl3
                      have HRD : Aside0 (RB w6.drew A35 r4) := ⟨HR35.out⟩
                      have HBD := Aside0.mk (below_drew1 (Below.refl w6.heap.size w6))
                      go_wp2_with fail
                      go_region_law (first | (refine Kd.R_append_rows_step (Kd.int .u8) (w0 := w6) w6.heap.size (by rfl) _ _ 26 5 (.int .u8 0) 1 (by rfl) Tryd.underlying26 infoB rfl (by decide) (by decide) (.slice none 0 0) [] r4 A35 r4.length (c - 28 - N - (4 + M2)) (fun _ => True) (fun _ => True) (by rfl) (by rfl) (Kd.R_nil _ _ _ _ _) HRD.out (fun _ _ h => h) (fun k _ => ⟨trivial, by simp [Value.ownBlock]⟩) (fun _ _ => trivial) HBD.out (Nat.le_refl _) HL4.out ?_; intro v8 w8 ho8 hb8 hg8 hat8; rw [List.nil_append] at ho8; obtain ⟨A8, c8, rfl, hc8, _⟩ := OB_reads ho8; clear hg8 hat8 hc8; have hk8 := HK6.out.below hb8; have y10 := hk8.c10; have z10 := hk8.fz 10))
                      have HK8 := Aside0.mk (show Call11 (w8.setCell ⟨wr.heap.size, 10, none⟩ (.slice A8 r4.length c8)) wr.heap.size x p v o 0 ByteArray.empty 0 0 0 (.slice none 0 0) (.slice A8 r4.length c8) from (show Blk11 w8 wr.heap.size _ from hk8).set 10 (.slice A8 r4.length c8))
                      have HZ8 := Aside0.mk (show Blk11 (w8.setCell ⟨wr.heap.size, 10, none⟩ (.slice A8 r4.length c8)) w.heap.size #[.int .u32 0, .int .u32 0, .int .u32 0, .int .u32 0, .int .u32 0, .string ⟨#[]⟩, .int .u32 0, .int .u32 0, .int .u32 0, .slice none 0 0, .slice none 0 0] from (Below.heap_setCell _ _ _ _ (by have := HG6.out.low; show w.heap.size ≠ wr.heap.size; omega)).trans (HG6.out.step hb8).z)
                      have HB8 := Aside0.mk (show Below w.heap.size w (w8.setCell ⟨wr.heap.size, 10, none⟩ (.slice A8 r4.length c8)) from (HG6.out.step hb8).be.setCell (p := ⟨wr.heap.size, 10, none⟩) (Nat.le_of_lt HG6.out.low) _)
                      have HLW := Aside0.mk HG6.out.low
                      have HLK6 := Aside0.mk HK6.out.lt
                      have HV8 := Aside0.mk (R_moved (w1 := (w8.setCell ⟨wr.heap.size, 10, none⟩ (.slice A8 r4.length c8))) (base' := wr.heap.size + 1) (Kd.R_below HV6.out hb8) (fun k hk _ => Below.heap_setCell _ _ _ _ (by show k ≠ wr.heap.size; omega)) (Nat.le_refl _))
                      have HO8 := Aside0.mk (R_moved (w1 := (w8.setCell ⟨wr.heap.size, 10, none⟩ (.slice A8 r4.length c8))) (base' := wr.heap.size + 1) (show Kd.R (Kd.int .u8) 5 w8 w6.heap.size (fun _ => True) (.slice A8 r4.length c8) r4 from ho8) (fun k hk _ => Below.heap_setCell _ _ _ _ (by have := HLK6.out; show k ≠ wr.heap.size; omega)) (by have := HLK6.out; omega))
                      clear ho8 hb8 hk8 y10 z10 hcut5 hm3 hwi
                      obtain ⟨f0, f1, f2, f3, f4, f5, f6, f7, f8, f9, f10⟩ := cells11 HK8.out
                      have HTH := Aside0.mk (there_of6 HZ8.out rfl : World.there (w8.setCell ⟨wr.heap.size, 10, none⟩ (.slice A8 r4.length c8)) w.heap.size 0 (#[.int .u32 x, .int .u32 p, .int .u32 v, .int .u32 o, .int .u32 0, .string ByteArray.empty, .int .u32 0, .int .u32 0, .int .u32 0, .slice none 0 0, .slice A8 r4.length c8] : Array Value).size)
                      go_wp2_with (with_reducible refine gate_store (t := 28) rfl ?_; refine wpList_store_mid rfl 28 (.tmp 2) (.tmp 153) rfl w.heap.size 0 #[.int .u32 x, .int .u32 p, .int .u32 v, .int .u32 o, .int .u32 0, .string ByteArray.empty, .int .u32 0, .int .u32 0, .int .u32 0, .slice none 0 0, .slice A8 r4.length c8] rfl rfl HTH.out (by kernel_rfl) (by simp [Value.oneCell']) ?_; generalize hws : World.setCells _ w.heap.size 0 _ = ws)
                      have kz : Blk11 ws w.heap.size #[.int .u32 x, .int .u32 p, .int .u32 v, .int .u32 o, .int .u32 0, .string ByteArray.empty, .int .u32 0, .int .u32 0, .int .u32 0, .slice none 0 0, .slice A8 r4.length c8] := by
                        have h := Blk11.sets [.int .u32 x, .int .u32 p, .int .u32 v, .int .u32 o, .int .u32 0, .string ByteArray.empty, .int .u32 0, .int .u32 0, .int .u32 0, .slice none 0 0, .slice A8 r4.length c8] 0 _ _ HZ8.out
                        rw [sets11] at h
                        rw [← hws]
                        exact h
                      have HBZ : Below w.heap.size w ws := by rw [← hws]; exact below_setCells w.heap.size (Nat.le_refl _) _ _ _ HB8.out
                      have hmv : ∀ k, wr.heap.size + 1 ≤ k → ws.heap[k]? = (w8.setCell ⟨wr.heap.size, 10, none⟩ (.slice A8 r4.length c8)).heap[k]? := fun k hk => by rw [← hws]; exact setCells_heap _ _ _ _ _ (by have := HLW.out; omega)
                      have HOG2 := R_moved (w1 := ws) (base' := w.heap.size) HV8.out (fun k hk _ => hmv k hk) (by have := HLW.out; omega)
                      have HOB2 := R_moved (w1 := ws) (base' := w.heap.size) HO8.out (fun k hk _ => hmv k hk) (by have := HLW.out; omega)
                      have k0 := kz.cell 0; have k1 := kz.cell 1; have k2 := kz.cell 2; have k3 := kz.cell 3; have k4 := kz.cell 4; have k5 := kz.cell 5; have k6 := kz.cell 6; have k7 := kz.cell 7; have k8 := kz.cell 8; have k9 := kz.cell 9; have k10 := kz.cell 10
                      have hcg := HREC.out
                      refine bodyPost_ret (v := .tuple #[.agg #[.int .u32 x, .int .u32 p, .int .u32 v, .int .u32 o, .int .u32 0, .string ByteArray.empty, .int .u32 0, .int .u32 0, .int .u32 0, .slice none 0 0, .slice A8 r4.length c8], .int .i64 0]) (by simp [results, Tryd.results16, go_sem, k0, k1, k2, k3, k4, k5, k6, k7, k8, k9, k10] <;> rfl) rfl ⟨.slice none 0 0, .slice A8 r4.length c8, ?_, ?_, ?_, HBZ⟩
                      · rw [hcg]; try rfl
                      · rw [hcg]; exact HOG2
                      · rw [hcg]; exact HOB2
                    · have HER := Aside0.mk (show callG l = callZ 5 by
                        rw [HCG.out]
                        have hsu := HSU.out
                        rw [if_neg hy0] at hsu
                        exact callH_sure HF0.out HWE.out (show _ = (5 : Int) by rw [HWR.out, hsu]) (by decide))
                      have hyl : 0 < Y.length := List.length_pos_iff.mpr hy0
                      clear hy0
                      have HTH := there_of6 HG6.out.z rfl
                      have hbz := HG6.out.be
                      go_wp2_with (with_reducible refine gate_store (t := 28) rfl ?_; refine wpList_store_mid rfl 28 (.tmp 2) (.tmp 144) rfl w.heap.size 0 #[.int .u32 0, .int .u32 0, .int .u32 0, .int .u32 0, .int .u32 0, .string ⟨#[]⟩, .int .u32 0, .int .u32 0, .int .u32 0, .slice none 0 0, .slice none 0 0] rfl rfl HTH (by kernel_rfl) (by simp [Value.oneCell']) ?_; generalize hws : World.setCells _ w.heap.size 0 _ = ws)
                      have kz : Blk11 ws w.heap.size #[.int .u32 0, .int .u32 0, .int .u32 0, .int .u32 0, .int .u32 0, .string ⟨#[]⟩, .int .u32 0, .int .u32 0, .int .u32 0, .slice none 0 0, .slice none 0 0] := by
                        have h := Blk11.sets [.int .u32 0, .int .u32 0, .int .u32 0, .int .u32 0, .int .u32 0, .string ⟨#[]⟩, .int .u32 0, .int .u32 0, .int .u32 0, .slice none 0 0, .slice none 0 0] 0 _ _ HG6.out.z
                        rw [sets11] at h
                        rw [← hws]
                        exact h
                      have HBZ : Below w.heap.size w ws := by rw [← hws]; exact below_setCells w.heap.size (Nat.le_refl _) _ _ _ hbz
                      have r0 := kz.cell 0; have r1 := kz.cell 1; have r2 := kz.cell 2; have r3 := kz.cell 3; have r4 := kz.cell 4; have r5 := kz.cell 5; have r6 := kz.cell 6; have r7 := kz.cell 7; have r8 := kz.cell 8; have r9 := kz.cell 9; have r10 := kz.cell 10
                      have hcg : callG l = callZ 5 := HER.out
                      refine bodyPost_ret (v := .tuple #[.agg #[.int .u32 0, .int .u32 0, .int .u32 0, .int .u32 0, .int .u32 0, .string ⟨#[]⟩, .int .u32 0, .int .u32 0, .int .u32 0, .slice none 0 0, .slice none 0 0], .int .i64 5]) (by simp [results, Tryd.results16, go_sem, r0, r1, r2, r3, r4, r5, r6, r7, r8, r9, r10] <;> rfl) rfl ⟨.slice none 0 0, .slice none 0 0, ?_, ?_, ?_, HBZ⟩
                      · rw [hcg]; rfl
                      · rw [hcg]; exact Kd.R_nil _ _ _ _ _
                      · rw [hcg]; exact Kd.R_nil _ _ _ _ _
                · have HER := Aside0.mk (show callG l = callZ 5 by
                    rw [HCG.out]
                    exact callH_sure HF0.out HWE.out (by rw [HWR.out]; exact sureG_ne HN.out hn0) (by decide))
                  have qn : (n != 0) = true := bne_iff_ne.mpr hn0
                  clear hn0
                  have HTH := there_of6 HG3.out.z rfl
                  have hbz := HG3.out.be
                  go_wp2_with (with_reducible refine gate_store (t := 28) rfl ?_; refine wpList_store_mid rfl 28 (.tmp 2) (.tmp 129) rfl w.heap.size 0 #[.int .u32 0, .int .u32 0, .int .u32 0, .int .u32 0, .int .u32 0, .string ⟨#[]⟩, .int .u32 0, .int .u32 0, .int .u32 0, .slice none 0 0, .slice none 0 0] rfl rfl HTH (by kernel_rfl) (by simp [Value.oneCell']) ?_; generalize hws : World.setCells _ w.heap.size 0 _ = ws)
                  have kz : Blk11 ws w.heap.size #[.int .u32 0, .int .u32 0, .int .u32 0, .int .u32 0, .int .u32 0, .string ⟨#[]⟩, .int .u32 0, .int .u32 0, .int .u32 0, .slice none 0 0, .slice none 0 0] := by
                    have h := Blk11.sets [.int .u32 0, .int .u32 0, .int .u32 0, .int .u32 0, .int .u32 0, .string ⟨#[]⟩, .int .u32 0, .int .u32 0, .int .u32 0, .slice none 0 0, .slice none 0 0] 0 _ _ HG3.out.z
                    rw [sets11] at h
                    rw [← hws]
                    exact h
                  have HBZ : Below w.heap.size w ws := by rw [← hws]; exact below_setCells w.heap.size (Nat.le_refl _) _ _ _ hbz
                  have r0 := kz.cell 0; have r1 := kz.cell 1; have r2 := kz.cell 2; have r3 := kz.cell 3; have r4 := kz.cell 4; have r5 := kz.cell 5; have r6 := kz.cell 6; have r7 := kz.cell 7; have r8 := kz.cell 8; have r9 := kz.cell 9; have r10 := kz.cell 10
                  have hcg : callG l = callZ 5 := HER.out
                  refine bodyPost_ret (v := .tuple #[.agg #[.int .u32 0, .int .u32 0, .int .u32 0, .int .u32 0, .int .u32 0, .string ⟨#[]⟩, .int .u32 0, .int .u32 0, .int .u32 0, .slice none 0 0, .slice none 0 0], .int .i64 5]) (by simp [results, Tryd.results16, go_sem, r0, r1, r2, r3, r4, r5, r6, r7, r8, r9, r10] <;> rfl) rfl ⟨.slice none 0 0, .slice none 0 0, ?_, ?_, ?_, HBZ⟩
                  · rw [hcg]; rfl
                  · rw [hcg]; exact Kd.R_nil _ _ _ _ _
                  · rw [hcg]; exact Kd.R_nil _ _ _ _ _
            · have HER := Aside0.mk (show callG l = callZ 5 by
                rw [HCG.out]
                exact callH_who HF0.out (by rw [HHH.out]; show (whoG 0 rest 0).1.e = 5; rw [HWZ.out, if_neg hx0]; rfl) (by decide))
              have hxl : 0 < X.length := List.length_pos_iff.mpr hx0
              clear hx0
              have HTH := there_of6 HG3.out.z rfl
              have hbz := HG3.out.be
              go_wp2_with (with_reducible refine gate_store (t := 28) rfl ?_; refine wpList_store_mid rfl 28 (.tmp 2) (.tmp 100) rfl w.heap.size 0 #[.int .u32 0, .int .u32 0, .int .u32 0, .int .u32 0, .int .u32 0, .string ⟨#[]⟩, .int .u32 0, .int .u32 0, .int .u32 0, .slice none 0 0, .slice none 0 0] rfl rfl HTH (by kernel_rfl) (by simp [Value.oneCell']) ?_; generalize hws : World.setCells _ w.heap.size 0 _ = ws)
              have kz : Blk11 ws w.heap.size #[.int .u32 0, .int .u32 0, .int .u32 0, .int .u32 0, .int .u32 0, .string ⟨#[]⟩, .int .u32 0, .int .u32 0, .int .u32 0, .slice none 0 0, .slice none 0 0] := by
                have h := Blk11.sets [.int .u32 0, .int .u32 0, .int .u32 0, .int .u32 0, .int .u32 0, .string ⟨#[]⟩, .int .u32 0, .int .u32 0, .int .u32 0, .slice none 0 0, .slice none 0 0] 0 _ _ HG3.out.z
                rw [sets11] at h
                rw [← hws]
                exact h
              have HBZ : Below w.heap.size w ws := by rw [← hws]; exact below_setCells w.heap.size (Nat.le_refl _) _ _ _ hbz
              have r0 := kz.cell 0; have r1 := kz.cell 1; have r2 := kz.cell 2; have r3 := kz.cell 3; have r4 := kz.cell 4; have r5 := kz.cell 5; have r6 := kz.cell 6; have r7 := kz.cell 7; have r8 := kz.cell 8; have r9 := kz.cell 9; have r10 := kz.cell 10
              have hcg : callG l = callZ 5 := HER.out
              refine bodyPost_ret (v := .tuple #[.agg #[.int .u32 0, .int .u32 0, .int .u32 0, .int .u32 0, .int .u32 0, .string ⟨#[]⟩, .int .u32 0, .int .u32 0, .int .u32 0, .slice none 0 0, .slice none 0 0], .int .i64 5]) (by simp [results, Tryd.results16, go_sem, r0, r1, r2, r3, r4, r5, r6, r7, r8, r9, r10] <;> rfl) rfl ⟨.slice none 0 0, .slice none 0 0, ?_, ?_, ?_, HBZ⟩
              · rw [hcg]; rfl
              · rw [hcg]; exact Kd.R_nil _ _ _ _ _
              · rw [hcg]; exact Kd.R_nil _ _ _ _ _
          · subst hf
            obtain ⟨R, hRR⟩ : ∃ R, credG X = R := ⟨_, rfl⟩
            have HWO := Aside0.mk (show whoG 1 rest 0 = (R, r2) by rw [whoG_one HAU.out, hRR])
            have HCR := Aside0.mk (wharfingerref05_Get.calls 40 A3 c3 X R.s R.m R.u R.g R.gs R.e w3 HR3.out HC3.out (by rw [← hRR]; exact rGet_f X HXB.out (by have := HX4.out; omega)))
            clear hRR
            go_wp2_with fail
            refine HCR.out.mono ?_
            rintro e w4 ⟨v4, rfl, ho4, hb4⟩
            obtain ⟨A4g, c4g, rfl, _⟩ := Kd.R_reads ho4
            have HG4 := Aside0.mk (HG3.out.step hb4)
            have hle := Nat.le_of_lt HG4.out.low
            have hnk : w.heap.size ≠ wr.heap.size := Nat.ne_of_lt HG4.out.low
            have hbe5 : Below w.heap.size w (((((w4.setCell ⟨wr.heap.size, 6, none⟩ (.int .u32 R.s)).setCell ⟨wr.heap.size, 5, none⟩ (.string R.m)).setCell ⟨wr.heap.size, 7, none⟩ (.int .u32 R.u)).setCell ⟨wr.heap.size, 8, none⟩ (.int .u32 R.g)).setCell ⟨wr.heap.size, 9, none⟩ (.slice A4g R.gs.length c4g)) := (((((HG4.out.be.setCell (p := ⟨wr.heap.size, 6, none⟩) hle (.int .u32 R.s)).setCell (p := ⟨wr.heap.size, 5, none⟩) hle (.string R.m)).setCell (p := ⟨wr.heap.size, 7, none⟩) hle (.int .u32 R.u)).setCell (p := ⟨wr.heap.size, 8, none⟩) hle (.int .u32 R.g)).setCell (p := ⟨wr.heap.size, 9, none⟩) hle (.slice A4g R.gs.length c4g))
            have HG5 := Aside0.mk (show GE w (((((w4.setCell ⟨wr.heap.size, 6, none⟩ (.int .u32 R.s)).setCell ⟨wr.heap.size, 5, none⟩ (.string R.m)).setCell ⟨wr.heap.size, 7, none⟩ (.int .u32 R.u)).setCell ⟨wr.heap.size, 8, none⟩ (.int .u32 R.g)).setCell ⟨wr.heap.size, 9, none⟩ (.slice A4g R.gs.length c4g)) wr.heap.size x p v o 1 R.m R.s R.u R.g (.slice A4g R.gs.length c4g) A28 rest from ⟨hbe5, ((Below.heap_setCell _ _ _ _ (by simpa using hnk)).trans ((Below.heap_setCell _ _ _ _ (by simpa using hnk)).trans ((Below.heap_setCell _ _ _ _ (by simpa using hnk)).trans ((Below.heap_setCell _ _ _ _ (by simpa using hnk)).trans ((Below.heap_setCell _ _ _ _ (by simpa using hnk)).trans HG4.out.z))))), ((((((show Blk11 w4 wr.heap.size _ from HG4.out.k).set 6 (.int .u32 R.s)).set 5 (.string R.m)).set 7 (.int .u32 R.u)).set 8 (.int .u32 R.g)).set 9 (.slice A4g R.gs.length c4g)), HRF.out _ (Kd.C_below HR0.out hbe5), HG4.out.low⟩)
            have HV5 := Aside0.mk (R_moved (w1 := (((((w4.setCell ⟨wr.heap.size, 6, none⟩ (.int .u32 R.s)).setCell ⟨wr.heap.size, 5, none⟩ (.string R.m)).setCell ⟨wr.heap.size, 7, none⟩ (.int .u32 R.u)).setCell ⟨wr.heap.size, 8, none⟩ (.int .u32 R.g)).setCell ⟨wr.heap.size, 9, none⟩ (.slice A4g R.gs.length c4g))) (base' := wr.heap.size + 1) ho4 (fun k hk _ => by
              have hK := HG3.out.k.lt
              have hne : k ≠ wr.heap.size := by omega
              refine (Below.heap_setCell _ _ _ _ (by simpa using hne)).trans ?_; refine (Below.heap_setCell _ _ _ _ (by simpa using hne)).trans ?_; refine (Below.heap_setCell _ _ _ _ (by simpa using hne)).trans ?_; refine (Below.heap_setCell _ _ _ _ (by simpa using hne)).trans ?_
              exact Below.heap_setCell _ _ _ _ (by simpa using hne)) (by have := HG3.out.k.lt; omega))
            have u5 := HG4.out.k.c5
            have u6 := HG4.out.k.c6
            have u7 := HG4.out.k.c7
            have u8 := HG4.out.k.c8
            have u9 := HG4.out.k.c9
            have s5 := HG4.out.k.fz 5
            have s6 := HG4.out.k.fz 6
            have s7 := HG4.out.k.fz 7
            have s8 := HG4.out.k.fz 8
            have s9 := HG4.out.k.fz 9
            clear ho4 hb4 HCR hle hnk hbe5 HG3
            by_cases he : R.e = 0
            · have HWE := Aside0.mk (show (whoG (rd (hdS callAsk l 0).1 6) (hdS callAsk l 0).2.1 0).1.e = 0 by rw [HHH.out]; show (whoG 1 rest 0).1.e = 0; rw [HWO.out]; exact he)
              have HWR := Aside0.mk (show (whoG (rd (hdS callAsk l 0).1 6) (hdS callAsk l 0).2.1 0).2 = r2 by rw [HHH.out]; show (whoG 1 rest 0).2 = r2; rw [HWO.out])
              have HWX := Aside0.mk (show (whoG (rd (hdS callAsk l 0).1 6) (hdS callAsk l 0).2.1 0).1 = R by rw [HHH.out]; show (whoG 1 rest 0).1 = R; rw [HWO.out])
              rw [he]
              clear he
              go_wp2_with fail
              clear u5 u6 u7 u8 u9 s5 s6 s7 s8 s9
              obtain ⟨w5, hw5⟩ : ∃ w5, (((((w4.setCell ⟨wr.heap.size, 6, none⟩ (.int .u32 R.s)).setCell ⟨wr.heap.size, 5, none⟩ (.string R.m)).setCell ⟨wr.heap.size, 7, none⟩ (.int .u32 R.u)).setCell ⟨wr.heap.size, 8, none⟩ (.int .u32 R.g)).setCell ⟨wr.heap.size, 9, none⟩ (.slice A4g R.gs.length c4g)) = w5 := ⟨_, rfl⟩
              rw [hw5] at HG5 HV5 ⊢
              clear hw5
              refine (ref01_Get_calls A18 (c - 28 - N) r2 w5 (HR18.out w5 HG5.out.r) HL2.out (byteOk_take HB2.out 4)).mono ?_
              rintro e wq ⟨rfl, rfl⟩
              clear y4
              by_cases hsh : r2.length < 4
              · have HER := Aside0.mk (show callG l = callZ 4 by
                  rw [HCG.out]
                  exact callH_sure HF0.out HWE.out (by rw [HWR.out]; exact sureG_few hsh) (by decide))
                rw [if_pos hsh, if_pos hsh]
                clear hsh
                have HTH := there_of6 HG5.out.z rfl
                have hbz := HG5.out.be
                go_wp2_with (with_reducible refine gate_store (t := 28) rfl ?_; refine wpList_store_mid rfl 28 (.tmp 2) (.tmp 125) rfl w.heap.size 0 #[.int .u32 0, .int .u32 0, .int .u32 0, .int .u32 0, .int .u32 0, .string ⟨#[]⟩, .int .u32 0, .int .u32 0, .int .u32 0, .slice none 0 0, .slice none 0 0] rfl rfl HTH (by kernel_rfl) (by simp [Value.oneCell']) ?_; generalize hws : World.setCells _ w.heap.size 0 _ = ws)
                have kz : Blk11 ws w.heap.size #[.int .u32 0, .int .u32 0, .int .u32 0, .int .u32 0, .int .u32 0, .string ⟨#[]⟩, .int .u32 0, .int .u32 0, .int .u32 0, .slice none 0 0, .slice none 0 0] := by
                  have h := Blk11.sets [.int .u32 0, .int .u32 0, .int .u32 0, .int .u32 0, .int .u32 0, .string ⟨#[]⟩, .int .u32 0, .int .u32 0, .int .u32 0, .slice none 0 0, .slice none 0 0] 0 _ _ HG5.out.z
                  rw [sets11] at h
                  rw [← hws]
                  exact h
                have HBZ : Below w.heap.size w ws := by rw [← hws]; exact below_setCells w.heap.size (Nat.le_refl _) _ _ _ hbz
                have r0 := kz.cell 0; have r1 := kz.cell 1; have r2 := kz.cell 2; have r3 := kz.cell 3; have r4 := kz.cell 4; have r5 := kz.cell 5; have r6 := kz.cell 6; have r7 := kz.cell 7; have r8 := kz.cell 8; have r9 := kz.cell 9; have r10 := kz.cell 10
                have hcg : callG l = callZ 4 := HER.out
                refine bodyPost_ret (v := .tuple #[.agg #[.int .u32 0, .int .u32 0, .int .u32 0, .int .u32 0, .int .u32 0, .string ⟨#[]⟩, .int .u32 0, .int .u32 0, .int .u32 0, .slice none 0 0, .slice none 0 0], .int .i64 4]) (by simp [results, Tryd.results16, go_sem, r0, r1, r2, r3, r4, r5, r6, r7, r8, r9, r10] <;> rfl) rfl ⟨.slice none 0 0, .slice none 0 0, ?_, ?_, ?_, HBZ⟩
                · rw [hcg]; rfl
                · rw [hcg]; exact Kd.R_nil _ _ _ _ _
                · rw [hcg]; exact Kd.R_nil _ _ _ _ _
              · rw [if_neg hsh, if_neg hsh]
                have HN := Aside0.mk (numG_of (Nat.le_of_not_lt hsh))
                have h4 : 4 ≤ r2.length := Nat.le_of_not_lt hsh
                obtain ⟨n, hn⟩ : ∃ n, deB (r2.take 4) = n := ⟨_, rfl⟩
                rw [hn] at HN ⊢
                clear hsh hn
                by_cases hn0 : n = 0
                · subst hn0
                  obtain ⟨A30, hcut3, hR30⟩ := from_ A18 r2 (c - 28 - N) 4 4 rfl h4 HL2.out
                  obtain ⟨r3, hr3⟩ : ∃ r3, r2.drop 4 = r3 := ⟨_, rfl⟩
                  have hl3 : r2.length - 4 = r3.length := by rw [← hr3, List.length_drop]
                  rw [hl3] at hcut3
                  rw [hr3] at hR30
                  have HN0 := Aside0.mk (show numG r2 0 = (0, r3, 0) by rw [HN.out, hr3])
                  have HB3 := Aside0.mk (hr3 ▸ byteOk_drop HB2.out 4 : byteOk r3 = true)
                  have HL3 := Aside0.mk (show r3.length ≤ c - 28 - N - 4 ∧ r3.length ≤ 140737488351232 ∧ r3.length + 4 = r2.length by have h1 := HL2.out; have h2 := HL2b.out; omega)
                  have HR3E := Aside0.mk hr3
                  have HR30 := Aside0.mk (hR30 w5 (HR18.out w5 HG5.out.r))
                  clear hr3 hl3 hR30 HN h4
                  rcases get_again r3 400 HB3.out with ⟨eb, heb, hq⟩ | ⟨Y, M2, hq, hM2, hY4, hpy, hYb, _⟩
                  · have HCL := Aside0.mk (wharfingerref02_Get.calls A30 (c - 28 - N - 4) r3 400 [] 0 eb w5 HR30.out HL3.out.1 (r2get HB3.out HL3.out.2.1 hq))
                    have HER := Aside0.mk (show callG l = callZ eb by
                      rw [HCG.out]
                      have hsu := sureG_is (show numG r2 0 = (0, r2.drop 4, 0) by rw [HN0.out, HR3E.out]) (show authG (r2.drop 4) 0 = ([], r3, eb) by rw [HR3E.out]; exact authG_bad hq)
                      rw [if_neg heb] at hsu
                      exact callH_sure HF0.out HWE.out (show _ = eb by rw [HWR.out, hsu]) heb)
                    have qe : (eb != 0) = true := bne_iff_ne.mpr heb
                    clear heb hq
                    go_wp2_with fail
                    refine HCL.out.mono ?_
                    rintro e w6 ⟨v6, rfl, ho6, hb6⟩
                    obtain ⟨A6, c6, rfl, _⟩ := OB_reads ho6
                    have HG6 := Aside0.mk (HG5.out.step hb6)
                    clear hb6 ho6 HCL
                    have HTH := there_of6 HG6.out.z rfl
                    have hbz := HG6.out.be
                    go_wp2_with (with_reducible refine gate_store (t := 28) rfl ?_; refine wpList_store_mid rfl 28 (.tmp 2) (.tmp 139) rfl w.heap.size 0 #[.int .u32 0, .int .u32 0, .int .u32 0, .int .u32 0, .int .u32 0, .string ⟨#[]⟩, .int .u32 0, .int .u32 0, .int .u32 0, .slice none 0 0, .slice none 0 0] rfl rfl HTH (by kernel_rfl) (by simp [Value.oneCell']) ?_; generalize hws : World.setCells _ w.heap.size 0 _ = ws)
                    have kz : Blk11 ws w.heap.size #[.int .u32 0, .int .u32 0, .int .u32 0, .int .u32 0, .int .u32 0, .string ⟨#[]⟩, .int .u32 0, .int .u32 0, .int .u32 0, .slice none 0 0, .slice none 0 0] := by
                      have h := Blk11.sets [.int .u32 0, .int .u32 0, .int .u32 0, .int .u32 0, .int .u32 0, .string ⟨#[]⟩, .int .u32 0, .int .u32 0, .int .u32 0, .slice none 0 0, .slice none 0 0] 0 _ _ HG6.out.z
                      rw [sets11] at h
                      rw [← hws]
                      exact h
                    have HBZ : Below w.heap.size w ws := by rw [← hws]; exact below_setCells w.heap.size (Nat.le_refl _) _ _ _ hbz
                    have r0 := kz.cell 0; have r1 := kz.cell 1; have r2 := kz.cell 2; have r3 := kz.cell 3; have r4 := kz.cell 4; have r5 := kz.cell 5; have r6 := kz.cell 6; have r7 := kz.cell 7; have r8 := kz.cell 8; have r9 := kz.cell 9; have r10 := kz.cell 10
                    have hcg : callG l = callZ eb := HER.out
                    refine bodyPost_ret (v := .tuple #[.agg #[.int .u32 0, .int .u32 0, .int .u32 0, .int .u32 0, .int .u32 0, .string ⟨#[]⟩, .int .u32 0, .int .u32 0, .int .u32 0, .slice none 0 0, .slice none 0 0], .int .i64 eb]) (by simp [results, Tryd.results16, go_sem, r0, r1, r2, r3, r4, r5, r6, r7, r8, r9, r10] <;> rfl) rfl ⟨.slice none 0 0, .slice none 0 0, ?_, ?_, ?_, HBZ⟩
                    · rw [hcg]; rfl
                    · rw [hcg]; exact Kd.R_nil _ _ _ _ _
                    · rw [hcg]; exact Kd.R_nil _ _ _ _ _
                  · have HCL := Aside0.mk (wharfingerref02_Get.calls A30 (c - 28 - N - 4) r3 400 Y M2 0 w5 HR30.out HL3.out.1 (r2get HB3.out HL3.out.2.1 hq))
                    have HSU := Aside0.mk (show sureG r2 0 = (r3.drop M2, if Y = [] then 0 else 5) by
                      have h := sureG_is (show numG r2 0 = (0, r2.drop 4, 0) by rw [HN0.out, HR3E.out]) (show authG (r2.drop 4) 0 = (Y, r3.drop M2, 0) by rw [HR3E.out]; exact authG_got hq)
                      rw [if_pos rfl] at h
                      exact h)
                    have HM2 := Aside0.mk hM2
                    clear hq hM2 hY4 hpy hYb
                    go_wp2_with fail
                    refine HCL.out.mono ?_
                    rintro e w6 ⟨v6, rfl, ho6, hb6⟩
                    obtain ⟨A6, c6, rfl, _⟩ := OB_reads ho6
                    have HG6 := Aside0.mk (HG5.out.step hb6)
                    have HV6 := Aside0.mk (Kd.R_below HV5.out hb6)
                    clear hb6 ho6 HCL hcut3
                    by_cases hy0 : Y = []
                    · subst hy0
                      obtain ⟨r4, hr4⟩ : ∃ r4, r3.drop M2 = r4 := ⟨_, rfl⟩
                      have HREC := Aside0.mk (show callG l = ⟨x, p, v, o, 1, R.m, R.s, R.u, R.g, R.gs, r4, 0⟩ by
                        rw [HCG.out]
                        unfold callH
                        dsimp only
                        rw [HF0.out, HWE.out, HWR.out, HSU.out, if_pos (show (if ([] : List Int) = [] then (0 : Int) else 5) = 0 from if_pos rfl), HWX.out, HHH.out, hr4]
                        rfl)
                      have hm := HM2.out
                      have hl3 := HL3.out
                      obtain ⟨A35, hcut5, hR35⟩ := from_ A18 r2 (c - 28 - N) (4 + M2) (4 + (M2 : Int)) (by omega) (by omega) HL2.out
                      have hl4 : r2.length - (4 + M2) = r4.length := by rw [← hr4, List.length_drop]; omega
                      rw [hl4] at hcut5
                      have HR35 := Aside0.mk (show RB w6 A35 r4 by
                        have h := hR35 w6 (HR18.out w6 HG6.out.r)
                        rw [show r2.drop (4 + M2) = r4 by rw [← hr4, ← HR3E.out, List.drop_drop]] at h
                        exact h)
                      have HM3 := Aside0.mk (show M2 ≤ 140737488351232 by omega)
                      have HL4 := Aside0.mk (show (([] : List Int).length + r4.length) * 1 ≤ 140737488355328 by have := HL2b.out; simp; omega)
                      have hm3 := HM3.out
                      have hwi : IntKind.i64.wrap (4 + (M2 : Int)) = 4 + (M2 : Int) := by rw [IntKind.wrap_i64]; omega
                      have y10 := HG6.out.k.c10
                      have z10 := HG6.out.k.fz 10
                      have HK6 := Aside0.mk HG6.out.k
                      clear hr4 hR35 hl4 hm hl3
                      have HRD : Aside0 (RB w6.drew A35 r4) := ⟨HR35.out⟩
                      have HBD := Aside0.mk (below_drew1 (Below.refl w6.heap.size w6))
                      go_wp2_with fail
                      go_region_law (first | (refine Kd.R_append_rows_step (Kd.int .u8) (w0 := w6) w6.heap.size (by rfl) _ _ 26 5 (.int .u8 0) 1 (by rfl) Tryd.underlying26 infoB rfl (by decide) (by decide) (.slice none 0 0) [] r4 A35 r4.length (c - 28 - N - (4 + M2)) (fun _ => True) (fun _ => True) (by rfl) (by rfl) (Kd.R_nil _ _ _ _ _) HRD.out (fun _ _ h => h) (fun k _ => ⟨trivial, by simp [Value.ownBlock]⟩) (fun _ _ => trivial) HBD.out (Nat.le_refl _) HL4.out ?_; intro v8 w8 ho8 hb8 hg8 hat8; rw [List.nil_append] at ho8; obtain ⟨A8, c8, rfl, hc8, _⟩ := OB_reads ho8; clear hg8 hat8 hc8; have hk8 := HK6.out.below hb8; have y10 := hk8.c10; have z10 := hk8.fz 10))
                      have HK8 := Aside0.mk (show Call11 (w8.setCell ⟨wr.heap.size, 10, none⟩ (.slice A8 r4.length c8)) wr.heap.size x p v o 1 R.m R.s R.u R.g (.slice A4g R.gs.length c4g) (.slice A8 r4.length c8) from (show Blk11 w8 wr.heap.size _ from hk8).set 10 (.slice A8 r4.length c8))
                      have HZ8 := Aside0.mk (show Blk11 (w8.setCell ⟨wr.heap.size, 10, none⟩ (.slice A8 r4.length c8)) w.heap.size #[.int .u32 0, .int .u32 0, .int .u32 0, .int .u32 0, .int .u32 0, .string ⟨#[]⟩, .int .u32 0, .int .u32 0, .int .u32 0, .slice none 0 0, .slice none 0 0] from (Below.heap_setCell _ _ _ _ (by have := HG6.out.low; show w.heap.size ≠ wr.heap.size; omega)).trans (HG6.out.step hb8).z)
                      have HB8 := Aside0.mk (show Below w.heap.size w (w8.setCell ⟨wr.heap.size, 10, none⟩ (.slice A8 r4.length c8)) from (HG6.out.step hb8).be.setCell (p := ⟨wr.heap.size, 10, none⟩) (Nat.le_of_lt HG6.out.low) _)
                      have HLW := Aside0.mk HG6.out.low
                      have HLK6 := Aside0.mk HK6.out.lt
                      have HV8 := Aside0.mk (R_moved (w1 := (w8.setCell ⟨wr.heap.size, 10, none⟩ (.slice A8 r4.length c8))) (base' := wr.heap.size + 1) (Kd.R_below HV6.out hb8) (fun k hk _ => Below.heap_setCell _ _ _ _ (by show k ≠ wr.heap.size; omega)) (Nat.le_refl _))
                      have HO8 := Aside0.mk (R_moved (w1 := (w8.setCell ⟨wr.heap.size, 10, none⟩ (.slice A8 r4.length c8))) (base' := wr.heap.size + 1) (show Kd.R (Kd.int .u8) 5 w8 w6.heap.size (fun _ => True) (.slice A8 r4.length c8) r4 from ho8) (fun k hk _ => Below.heap_setCell _ _ _ _ (by have := HLK6.out; show k ≠ wr.heap.size; omega)) (by have := HLK6.out; omega))
                      clear ho8 hb8 hk8 y10 z10 hcut5 hm3 hwi
                      obtain ⟨f0, f1, f2, f3, f4, f5, f6, f7, f8, f9, f10⟩ := cells11 HK8.out
                      have HTH := Aside0.mk (there_of6 HZ8.out rfl : World.there (w8.setCell ⟨wr.heap.size, 10, none⟩ (.slice A8 r4.length c8)) w.heap.size 0 (#[.int .u32 x, .int .u32 p, .int .u32 v, .int .u32 o, .int .u32 1, .string R.m, .int .u32 R.s, .int .u32 R.u, .int .u32 R.g, .slice A4g R.gs.length c4g, .slice A8 r4.length c8] : Array Value).size)
                      go_wp2_with (with_reducible refine gate_store (t := 28) rfl ?_; refine wpList_store_mid rfl 28 (.tmp 2) (.tmp 153) rfl w.heap.size 0 #[.int .u32 x, .int .u32 p, .int .u32 v, .int .u32 o, .int .u32 1, .string R.m, .int .u32 R.s, .int .u32 R.u, .int .u32 R.g, .slice A4g R.gs.length c4g, .slice A8 r4.length c8] rfl rfl HTH.out (by kernel_rfl) (by simp [Value.oneCell']) ?_; generalize hws : World.setCells _ w.heap.size 0 _ = ws)
                      have kz : Blk11 ws w.heap.size #[.int .u32 x, .int .u32 p, .int .u32 v, .int .u32 o, .int .u32 1, .string R.m, .int .u32 R.s, .int .u32 R.u, .int .u32 R.g, .slice A4g R.gs.length c4g, .slice A8 r4.length c8] := by
                        have h := Blk11.sets [.int .u32 x, .int .u32 p, .int .u32 v, .int .u32 o, .int .u32 1, .string R.m, .int .u32 R.s, .int .u32 R.u, .int .u32 R.g, .slice A4g R.gs.length c4g, .slice A8 r4.length c8] 0 _ _ HZ8.out
                        rw [sets11] at h
                        rw [← hws]
                        exact h
                      have HBZ : Below w.heap.size w ws := by rw [← hws]; exact below_setCells w.heap.size (Nat.le_refl _) _ _ _ HB8.out
                      have hmv : ∀ k, wr.heap.size + 1 ≤ k → ws.heap[k]? = (w8.setCell ⟨wr.heap.size, 10, none⟩ (.slice A8 r4.length c8)).heap[k]? := fun k hk => by rw [← hws]; exact setCells_heap _ _ _ _ _ (by have := HLW.out; omega)
                      have HOG2 := R_moved (w1 := ws) (base' := w.heap.size) HV8.out (fun k hk _ => hmv k hk) (by have := HLW.out; omega)
                      have HOB2 := R_moved (w1 := ws) (base' := w.heap.size) HO8.out (fun k hk _ => hmv k hk) (by have := HLW.out; omega)
                      have k0 := kz.cell 0; have k1 := kz.cell 1; have k2 := kz.cell 2; have k3 := kz.cell 3; have k4 := kz.cell 4; have k5 := kz.cell 5; have k6 := kz.cell 6; have k7 := kz.cell 7; have k8 := kz.cell 8; have k9 := kz.cell 9; have k10 := kz.cell 10
                      have hcg := HREC.out
                      refine bodyPost_ret (v := .tuple #[.agg #[.int .u32 x, .int .u32 p, .int .u32 v, .int .u32 o, .int .u32 1, .string R.m, .int .u32 R.s, .int .u32 R.u, .int .u32 R.g, .slice A4g R.gs.length c4g, .slice A8 r4.length c8], .int .i64 0]) (by simp [results, Tryd.results16, go_sem, k0, k1, k2, k3, k4, k5, k6, k7, k8, k9, k10] <;> rfl) rfl ⟨.slice A4g R.gs.length c4g, .slice A8 r4.length c8, ?_, ?_, ?_, HBZ⟩
                      · rw [hcg]; try rfl
                      · rw [hcg]; exact HOG2
                      · rw [hcg]; exact HOB2
                    · have HER := Aside0.mk (show callG l = callZ 5 by
                        rw [HCG.out]
                        have hsu := HSU.out
                        rw [if_neg hy0] at hsu
                        exact callH_sure HF0.out HWE.out (show _ = (5 : Int) by rw [HWR.out, hsu]) (by decide))
                      have hyl : 0 < Y.length := List.length_pos_iff.mpr hy0
                      clear hy0
                      have HTH := there_of6 HG6.out.z rfl
                      have hbz := HG6.out.be
                      go_wp2_with (with_reducible refine gate_store (t := 28) rfl ?_; refine wpList_store_mid rfl 28 (.tmp 2) (.tmp 144) rfl w.heap.size 0 #[.int .u32 0, .int .u32 0, .int .u32 0, .int .u32 0, .int .u32 0, .string ⟨#[]⟩, .int .u32 0, .int .u32 0, .int .u32 0, .slice none 0 0, .slice none 0 0] rfl rfl HTH (by kernel_rfl) (by simp [Value.oneCell']) ?_; generalize hws : World.setCells _ w.heap.size 0 _ = ws)
                      have kz : Blk11 ws w.heap.size #[.int .u32 0, .int .u32 0, .int .u32 0, .int .u32 0, .int .u32 0, .string ⟨#[]⟩, .int .u32 0, .int .u32 0, .int .u32 0, .slice none 0 0, .slice none 0 0] := by
                        have h := Blk11.sets [.int .u32 0, .int .u32 0, .int .u32 0, .int .u32 0, .int .u32 0, .string ⟨#[]⟩, .int .u32 0, .int .u32 0, .int .u32 0, .slice none 0 0, .slice none 0 0] 0 _ _ HG6.out.z
                        rw [sets11] at h
                        rw [← hws]
                        exact h
                      have HBZ : Below w.heap.size w ws := by rw [← hws]; exact below_setCells w.heap.size (Nat.le_refl _) _ _ _ hbz
                      have r0 := kz.cell 0; have r1 := kz.cell 1; have r2 := kz.cell 2; have r3 := kz.cell 3; have r4 := kz.cell 4; have r5 := kz.cell 5; have r6 := kz.cell 6; have r7 := kz.cell 7; have r8 := kz.cell 8; have r9 := kz.cell 9; have r10 := kz.cell 10
                      have hcg : callG l = callZ 5 := HER.out
                      refine bodyPost_ret (v := .tuple #[.agg #[.int .u32 0, .int .u32 0, .int .u32 0, .int .u32 0, .int .u32 0, .string ⟨#[]⟩, .int .u32 0, .int .u32 0, .int .u32 0, .slice none 0 0, .slice none 0 0], .int .i64 5]) (by simp [results, Tryd.results16, go_sem, r0, r1, r2, r3, r4, r5, r6, r7, r8, r9, r10] <;> rfl) rfl ⟨.slice none 0 0, .slice none 0 0, ?_, ?_, ?_, HBZ⟩
                      · rw [hcg]; rfl
                      · rw [hcg]; exact Kd.R_nil _ _ _ _ _
                      · rw [hcg]; exact Kd.R_nil _ _ _ _ _
                · have HER := Aside0.mk (show callG l = callZ 5 by
                    rw [HCG.out]
                    exact callH_sure HF0.out HWE.out (by rw [HWR.out]; exact sureG_ne HN.out hn0) (by decide))
                  have qn : (n != 0) = true := bne_iff_ne.mpr hn0
                  clear hn0
                  have HTH := there_of6 HG5.out.z rfl
                  have hbz := HG5.out.be
                  go_wp2_with (with_reducible refine gate_store (t := 28) rfl ?_; refine wpList_store_mid rfl 28 (.tmp 2) (.tmp 129) rfl w.heap.size 0 #[.int .u32 0, .int .u32 0, .int .u32 0, .int .u32 0, .int .u32 0, .string ⟨#[]⟩, .int .u32 0, .int .u32 0, .int .u32 0, .slice none 0 0, .slice none 0 0] rfl rfl HTH (by kernel_rfl) (by simp [Value.oneCell']) ?_; generalize hws : World.setCells _ w.heap.size 0 _ = ws)
                  have kz : Blk11 ws w.heap.size #[.int .u32 0, .int .u32 0, .int .u32 0, .int .u32 0, .int .u32 0, .string ⟨#[]⟩, .int .u32 0, .int .u32 0, .int .u32 0, .slice none 0 0, .slice none 0 0] := by
                    have h := Blk11.sets [.int .u32 0, .int .u32 0, .int .u32 0, .int .u32 0, .int .u32 0, .string ⟨#[]⟩, .int .u32 0, .int .u32 0, .int .u32 0, .slice none 0 0, .slice none 0 0] 0 _ _ HG5.out.z
                    rw [sets11] at h
                    rw [← hws]
                    exact h
                  have HBZ : Below w.heap.size w ws := by rw [← hws]; exact below_setCells w.heap.size (Nat.le_refl _) _ _ _ hbz
                  have r0 := kz.cell 0; have r1 := kz.cell 1; have r2 := kz.cell 2; have r3 := kz.cell 3; have r4 := kz.cell 4; have r5 := kz.cell 5; have r6 := kz.cell 6; have r7 := kz.cell 7; have r8 := kz.cell 8; have r9 := kz.cell 9; have r10 := kz.cell 10
                  have hcg : callG l = callZ 5 := HER.out
                  refine bodyPost_ret (v := .tuple #[.agg #[.int .u32 0, .int .u32 0, .int .u32 0, .int .u32 0, .int .u32 0, .string ⟨#[]⟩, .int .u32 0, .int .u32 0, .int .u32 0, .slice none 0 0, .slice none 0 0], .int .i64 5]) (by simp [results, Tryd.results16, go_sem, r0, r1, r2, r3, r4, r5, r6, r7, r8, r9, r10] <;> rfl) rfl ⟨.slice none 0 0, .slice none 0 0, ?_, ?_, ?_, HBZ⟩
                  · rw [hcg]; rfl
                  · rw [hcg]; exact Kd.R_nil _ _ _ _ _
                  · rw [hcg]; exact Kd.R_nil _ _ _ _ _
            · have HER := Aside0.mk (show callG l = callZ R.e by
                rw [HCG.out]
                exact callH_who HF0.out (by rw [HHH.out]; show (whoG 1 rest 0).1.e = R.e; rw [HWO.out]) he)
              have qe : (R.e != 0) = true := bne_iff_ne.mpr he
              clear he
              have HTH := there_of6 HG5.out.z rfl
              have hbz := HG5.out.be
              go_wp2_with (with_reducible refine gate_store (t := 28) rfl ?_; refine wpList_store_mid rfl 28 (.tmp 2) (.tmp 116) rfl w.heap.size 0 #[.int .u32 0, .int .u32 0, .int .u32 0, .int .u32 0, .int .u32 0, .string ⟨#[]⟩, .int .u32 0, .int .u32 0, .int .u32 0, .slice none 0 0, .slice none 0 0] rfl rfl HTH (by kernel_rfl) (by simp [Value.oneCell']) ?_; generalize hws : World.setCells _ w.heap.size 0 _ = ws)
              have kz : Blk11 ws w.heap.size #[.int .u32 0, .int .u32 0, .int .u32 0, .int .u32 0, .int .u32 0, .string ⟨#[]⟩, .int .u32 0, .int .u32 0, .int .u32 0, .slice none 0 0, .slice none 0 0] := by
                have h := Blk11.sets [.int .u32 0, .int .u32 0, .int .u32 0, .int .u32 0, .int .u32 0, .string ⟨#[]⟩, .int .u32 0, .int .u32 0, .int .u32 0, .slice none 0 0, .slice none 0 0] 0 _ _ HG5.out.z
                rw [sets11] at h
                rw [← hws]
                exact h
              have HBZ : Below w.heap.size w ws := by rw [← hws]; exact below_setCells w.heap.size (Nat.le_refl _) _ _ _ hbz
              have r0 := kz.cell 0; have r1 := kz.cell 1; have r2 := kz.cell 2; have r3 := kz.cell 3; have r4 := kz.cell 4; have r5 := kz.cell 5; have r6 := kz.cell 6; have r7 := kz.cell 7; have r8 := kz.cell 8; have r9 := kz.cell 9; have r10 := kz.cell 10
              have hcg : callG l = callZ R.e := HER.out
              refine bodyPost_ret (v := .tuple #[.agg #[.int .u32 0, .int .u32 0, .int .u32 0, .int .u32 0, .int .u32 0, .string ⟨#[]⟩, .int .u32 0, .int .u32 0, .int .u32 0, .slice none 0 0, .slice none 0 0], .int .i64 R.e]) (by simp [results, Tryd.results16, go_sem, r0, r1, r2, r3, r4, r5, r6, r7, r8, r9, r10] <;> rfl) rfl ⟨.slice none 0 0, .slice none 0 0, ?_, ?_, ?_, HBZ⟩
              · rw [hcg]; rfl
              · rw [hcg]; exact Kd.R_nil _ _ _ _ _
              · rw [hcg]; exact Kd.R_nil _ _ _ _ _
      · have hk7 : k = 0 ∨ k = 1 ∨ k = 2 ∨ k = 3 ∨ k = 4 ∨ k = 5 ∨ k = 6 := by omega
        clear h7 hk
        rcases hk7 with rfl | rfl | rfl | rfl | rfl | rfl | rfl
        · obtain ⟨A6, hcut, hR6⟩ := from_ A l c 0 0 rfl HLK.out HC.out
          have hr1 := HRR.out
          have HLB := Aside0.mk (hR6 wr hr1)
          have HOB := Aside0.mk (byteOk_drop HOK.out 0)
          obtain ⟨lk, hlk⟩ : ∃ lk, l.drop 0 = lk := ⟨_, rfl⟩
          have hll : l.length - 0 = lk.length := by rw [← hlk, List.length_drop]
          have HH7 := Aside0.mk HGR.out.h7
          rw [show 4 * 0 = 0 from rfl] at HH7
          rw [hlk] at HLB HOB HH7
          have HLL := Aside0.mk hll
          have HLKE := Aside0.mk hlk
          rw [hll] at hcut
          have HCL := Aside0.mk (ref01_Get_calls A6 (c - 0) lk wr HLB.out (by have := HC.out; omega) (byteOk_take HOB.out 4))
          clear hR6 hr1 hlk hll
          go_wp2_with fail
          refine HCL.out.mono ?_
          rintro e w2 ⟨rfl, rfl⟩
          clear HCL hcut
          by_cases hsh : lk.length < 4
          · have HER := Aside0.mk (show callG l = callZ 4 by
              rw [HCG.out]
              exact callH_err (by omega) (h7_err HH7.out (none) [some 0, some 2, none, none, none, none] rfl (by rw [numG_few hsh, if_neg (show ¬ ((4 : Int) = 0) by decide)]) (by omega)))
            rw [if_pos hsh, if_pos hsh]
            clear hsh
            have HTH := there_of6 HZR.out rfl
            have hbz := HBE.out
            go_wp2_with (with_reducible refine gate_store (t := 28) rfl ?_; refine wpList_store_mid rfl 28 (.tmp 2) (.tmp 32) rfl w.heap.size 0 #[.int .u32 0, .int .u32 0, .int .u32 0, .int .u32 0, .int .u32 0, .string ⟨#[]⟩, .int .u32 0, .int .u32 0, .int .u32 0, .slice none 0 0, .slice none 0 0] rfl rfl HTH (by kernel_rfl) (by simp [Value.oneCell']) ?_; generalize hws : World.setCells _ w.heap.size 0 _ = ws)
            have kz : Blk11 ws w.heap.size #[.int .u32 0, .int .u32 0, .int .u32 0, .int .u32 0, .int .u32 0, .string ⟨#[]⟩, .int .u32 0, .int .u32 0, .int .u32 0, .slice none 0 0, .slice none 0 0] := by
              have h := Blk11.sets [.int .u32 0, .int .u32 0, .int .u32 0, .int .u32 0, .int .u32 0, .string ⟨#[]⟩, .int .u32 0, .int .u32 0, .int .u32 0, .slice none 0 0, .slice none 0 0] 0 _ _ HZR.out
              rw [sets11] at h
              rw [← hws]
              exact h
            have HBZ : Below w.heap.size w ws := by rw [← hws]; exact below_setCells w.heap.size (Nat.le_refl _) _ _ _ hbz
            have r0 := kz.cell 0; have r1 := kz.cell 1; have r2 := kz.cell 2; have r3 := kz.cell 3; have r4 := kz.cell 4; have r5 := kz.cell 5; have r6 := kz.cell 6; have r7 := kz.cell 7; have r8 := kz.cell 8; have r9 := kz.cell 9; have r10 := kz.cell 10
            have hcg : callG l = callZ 4 := HER.out
            refine bodyPost_ret (v := .tuple #[.agg #[.int .u32 0, .int .u32 0, .int .u32 0, .int .u32 0, .int .u32 0, .string ⟨#[]⟩, .int .u32 0, .int .u32 0, .int .u32 0, .slice none 0 0, .slice none 0 0], .int .i64 4]) (by simp [results, Tryd.results16, go_sem, r0, r1, r2, r3, r4, r5, r6, r7, r8, r9, r10] <;> rfl) rfl ⟨.slice none 0 0, .slice none 0 0, ?_, ?_, ?_, HBZ⟩
            · rw [hcg]; rfl
            · rw [hcg]; exact Kd.R_nil _ _ _ _ _
            · rw [hcg]; exact Kd.R_nil _ _ _ _ _
          · rw [if_neg hsh, if_neg hsh]
            have HN := Aside0.mk (numG_of (Nat.le_of_not_lt hsh))
            have HRN := Aside0.mk (show R32 (deB (lk.take 4)) by have h := numG_range HOB.out 0; rw [HN.out] at h; exact h)
            have HSH := Aside0.mk hsh
            obtain ⟨n, hn⟩ : ∃ n, deB (lk.take 4) = n := ⟨_, rfl⟩
            rw [hn] at HN HRN ⊢
            clear hsh hn
            have HO := Aside0.mk HGR.out.row
            have HBA := Aside0.mk (show Below (w.heap.size + 1) w1 wr from HS1.out ▸ HGR.out.be)
            have HBS := Aside0.mk (show w.heap.size + 1 ≤ wr.heap.size by have := HGR.out.be.size; have := HS1.out; omega)
            have HLT := Aside0.mk (show (ns.length + 1) * 4 ≤ 140737488355328 by rw [HGR.out.nl]; decide)
            go_wp2_with (at_builtin; refine Kd.R_append (Kd.int .u32) (w0 := w1) (w.heap.size + 1) rfl _ _ 23 22 (.int .u32 0) 4 rfl Tryd.underlying23 info_t32q rfl (by decide) (by decide) (.slice A4 ns.length c4) ns n [.int .u32 n] (fun _ => True) (fun _ => False) (by rfl) (by rfl) rfl (fun _ h => h.elim) (fun _ _ => trivial) HO.out HBA.out HBS.out HLT.out ?_; intro V3 w3 ho3 hb3 hg3 hat3; have HO3 := Aside0.mk ho3; have HB3 := Aside0.mk hb3; clear ho3 hb3 hg3 hat3)
            go_roundw
            case rel =>
              refine ⟨0 + 1, ns ++ [n], by omega, by go_num, (HS1.out ▸ HB3.out), HO3.out, by rw [List.length_append, HGR.out.nl]; rfl, by have h1 := HSH.out; have h2 := HLL.out; omega, ?_, fun h => absurd h (by decide)⟩
              have h := h7_next HH7.out (none) [some 0, some 2, none, none, none, none] rfl rfl (by rw [HN.out, if_pos rfl]; exact rfl)
              rw [HN.out] at h
              rw [show l.drop (4 * (0 + 1)) = lk.drop 4 by rw [← HLKE.out, List.drop_drop]]
              exact h
            case measure => simp [intOf]
        · obtain ⟨A6, hcut, hR6⟩ := from_ A l c 4 4 rfl HLK.out HC.out
          have hr1 := HRR.out
          have HLB := Aside0.mk (hR6 wr hr1)
          have HOB := Aside0.mk (byteOk_drop HOK.out 4)
          obtain ⟨lk, hlk⟩ : ∃ lk, l.drop 4 = lk := ⟨_, rfl⟩
          have hll : l.length - 4 = lk.length := by rw [← hlk, List.length_drop]
          have HH7 := Aside0.mk HGR.out.h7
          rw [show 4 * 1 = 4 from rfl] at HH7
          rw [hlk] at HLB HOB HH7
          have HLL := Aside0.mk hll
          have HLKE := Aside0.mk hlk
          rw [hll] at hcut
          have HCL := Aside0.mk (ref01_Get_calls A6 (c - 4) lk wr HLB.out (by have := HC.out; omega) (byteOk_take HOB.out 4))
          clear hR6 hr1 hlk hll
          go_wp2_with fail
          refine HCL.out.mono ?_
          rintro e w2 ⟨rfl, rfl⟩
          clear HCL hcut
          by_cases hsh : lk.length < 4
          · have HER := Aside0.mk (show callG l = callZ 4 by
              rw [HCG.out]
              exact callH_err (by omega) (h7_err HH7.out (some 0) [some 2, none, none, none, none] rfl (by rw [numG_few hsh, if_neg (show ¬ ((4 : Int) = 0) by decide)]) (by omega)))
            rw [if_pos hsh, if_pos hsh]
            clear hsh
            have HTH := there_of6 HZR.out rfl
            have hbz := HBE.out
            go_wp2_with (with_reducible refine gate_store (t := 28) rfl ?_; refine wpList_store_mid rfl 28 (.tmp 2) (.tmp 32) rfl w.heap.size 0 #[.int .u32 0, .int .u32 0, .int .u32 0, .int .u32 0, .int .u32 0, .string ⟨#[]⟩, .int .u32 0, .int .u32 0, .int .u32 0, .slice none 0 0, .slice none 0 0] rfl rfl HTH (by kernel_rfl) (by simp [Value.oneCell']) ?_; generalize hws : World.setCells _ w.heap.size 0 _ = ws)
            have kz : Blk11 ws w.heap.size #[.int .u32 0, .int .u32 0, .int .u32 0, .int .u32 0, .int .u32 0, .string ⟨#[]⟩, .int .u32 0, .int .u32 0, .int .u32 0, .slice none 0 0, .slice none 0 0] := by
              have h := Blk11.sets [.int .u32 0, .int .u32 0, .int .u32 0, .int .u32 0, .int .u32 0, .string ⟨#[]⟩, .int .u32 0, .int .u32 0, .int .u32 0, .slice none 0 0, .slice none 0 0] 0 _ _ HZR.out
              rw [sets11] at h
              rw [← hws]
              exact h
            have HBZ : Below w.heap.size w ws := by rw [← hws]; exact below_setCells w.heap.size (Nat.le_refl _) _ _ _ hbz
            have r0 := kz.cell 0; have r1 := kz.cell 1; have r2 := kz.cell 2; have r3 := kz.cell 3; have r4 := kz.cell 4; have r5 := kz.cell 5; have r6 := kz.cell 6; have r7 := kz.cell 7; have r8 := kz.cell 8; have r9 := kz.cell 9; have r10 := kz.cell 10
            have hcg : callG l = callZ 4 := HER.out
            refine bodyPost_ret (v := .tuple #[.agg #[.int .u32 0, .int .u32 0, .int .u32 0, .int .u32 0, .int .u32 0, .string ⟨#[]⟩, .int .u32 0, .int .u32 0, .int .u32 0, .slice none 0 0, .slice none 0 0], .int .i64 4]) (by simp [results, Tryd.results16, go_sem, r0, r1, r2, r3, r4, r5, r6, r7, r8, r9, r10] <;> rfl) rfl ⟨.slice none 0 0, .slice none 0 0, ?_, ?_, ?_, HBZ⟩
            · rw [hcg]; rfl
            · rw [hcg]; exact Kd.R_nil _ _ _ _ _
            · rw [hcg]; exact Kd.R_nil _ _ _ _ _
          · rw [if_neg hsh, if_neg hsh]
            have HN := Aside0.mk (numG_of (Nat.le_of_not_lt hsh))
            have HRN := Aside0.mk (show R32 (deB (lk.take 4)) by have h := numG_range HOB.out 0; rw [HN.out] at h; exact h)
            have HSH := Aside0.mk hsh
            obtain ⟨n, hn⟩ : ∃ n, deB (lk.take 4) = n := ⟨_, rfl⟩
            rw [hn] at HN HRN ⊢
            clear hsh hn
            by_cases hb : n = 0
            · have HBD := Aside0.mk hb
              have qb : (n != 0) = false := by simp [hb]
              clear hb
              have HO := Aside0.mk HGR.out.row
              have HBA := Aside0.mk (show Below (w.heap.size + 1) w1 wr from HS1.out ▸ HGR.out.be)
              have HBS := Aside0.mk (show w.heap.size + 1 ≤ wr.heap.size by have := HGR.out.be.size; have := HS1.out; omega)
              have HLT := Aside0.mk (show (ns.length + 1) * 4 ≤ 140737488355328 by rw [HGR.out.nl]; decide)
              go_wp2_with (at_builtin; refine Kd.R_append (Kd.int .u32) (w0 := w1) (w.heap.size + 1) rfl _ _ 23 22 (.int .u32 0) 4 rfl Tryd.underlying23 info_t32q rfl (by decide) (by decide) (.slice A4 ns.length c4) ns n [.int .u32 n] (fun _ => True) (fun _ => False) (by rfl) (by rfl) rfl (fun _ h => h.elim) (fun _ _ => trivial) HO.out HBA.out HBS.out HLT.out ?_; intro V3 w3 ho3 hb3 hg3 hat3; have HO3 := Aside0.mk ho3; have HB3 := Aside0.mk hb3; clear ho3 hb3 hg3 hat3)
              go_roundw
              case rel =>
                refine ⟨1 + 1, ns ++ [n], by omega, by go_num, (HS1.out ▸ HB3.out), HO3.out, by rw [List.length_append, HGR.out.nl]; rfl, by have h1 := HSH.out; have h2 := HLL.out; omega, ?_, fun h => absurd h (by decide)⟩
                have h := h7_next HH7.out (some 0) [some 2, none, none, none, none] rfl rfl (by rw [HN.out, if_pos rfl]; exact (by unfold askG; dsimp only; rw [if_pos HBD.out]))
                rw [HN.out] at h
                rw [show l.drop (4 * (1 + 1)) = lk.drop 4 by rw [← HLKE.out, List.drop_drop]]
                exact h
              case measure => simp [intOf]
            · have qb : (n != 0) = true := bne_iff_ne.mpr hb
              have HER := Aside0.mk (show callG l = callZ 5 by
                rw [HCG.out]
                exact callH_err (by omega) (h7_err HH7.out (some 0) [some 2, none, none, none, none] rfl (by rw [HN.out, if_pos rfl]; unfold askG; dsimp only; rw [if_neg hb]) (by omega)))
              clear hb
              have HTH := there_of6 HZR.out rfl
              have hbz := HBE.out
              go_wp2_with (with_reducible refine gate_store (t := 28) rfl ?_; refine wpList_store_mid rfl 28 (.tmp 2) (.tmp 56) rfl w.heap.size 0 #[.int .u32 0, .int .u32 0, .int .u32 0, .int .u32 0, .int .u32 0, .string ⟨#[]⟩, .int .u32 0, .int .u32 0, .int .u32 0, .slice none 0 0, .slice none 0 0] rfl rfl HTH (by kernel_rfl) (by simp [Value.oneCell']) ?_; generalize hws : World.setCells _ w.heap.size 0 _ = ws)
              have kz : Blk11 ws w.heap.size #[.int .u32 0, .int .u32 0, .int .u32 0, .int .u32 0, .int .u32 0, .string ⟨#[]⟩, .int .u32 0, .int .u32 0, .int .u32 0, .slice none 0 0, .slice none 0 0] := by
                have h := Blk11.sets [.int .u32 0, .int .u32 0, .int .u32 0, .int .u32 0, .int .u32 0, .string ⟨#[]⟩, .int .u32 0, .int .u32 0, .int .u32 0, .slice none 0 0, .slice none 0 0] 0 _ _ HZR.out
                rw [sets11] at h
                rw [← hws]
                exact h
              have HBZ : Below w.heap.size w ws := by rw [← hws]; exact below_setCells w.heap.size (Nat.le_refl _) _ _ _ hbz
              have r0 := kz.cell 0; have r1 := kz.cell 1; have r2 := kz.cell 2; have r3 := kz.cell 3; have r4 := kz.cell 4; have r5 := kz.cell 5; have r6 := kz.cell 6; have r7 := kz.cell 7; have r8 := kz.cell 8; have r9 := kz.cell 9; have r10 := kz.cell 10
              have hcg : callG l = callZ 5 := HER.out
              refine bodyPost_ret (v := .tuple #[.agg #[.int .u32 0, .int .u32 0, .int .u32 0, .int .u32 0, .int .u32 0, .string ⟨#[]⟩, .int .u32 0, .int .u32 0, .int .u32 0, .slice none 0 0, .slice none 0 0], .int .i64 5]) (by simp [results, Tryd.results16, go_sem, r0, r1, r2, r3, r4, r5, r6, r7, r8, r9, r10] <;> rfl) rfl ⟨.slice none 0 0, .slice none 0 0, ?_, ?_, ?_, HBZ⟩
              · rw [hcg]; rfl
              · rw [hcg]; exact Kd.R_nil _ _ _ _ _
              · rw [hcg]; exact Kd.R_nil _ _ _ _ _
        · obtain ⟨A6, hcut, hR6⟩ := from_ A l c 8 8 rfl HLK.out HC.out
          have hr1 := HRR.out
          have HLB := Aside0.mk (hR6 wr hr1)
          have HOB := Aside0.mk (byteOk_drop HOK.out 8)
          obtain ⟨lk, hlk⟩ : ∃ lk, l.drop 8 = lk := ⟨_, rfl⟩
          have hll : l.length - 8 = lk.length := by rw [← hlk, List.length_drop]
          have HH7 := Aside0.mk HGR.out.h7
          rw [show 4 * 2 = 8 from rfl] at HH7
          rw [hlk] at HLB HOB HH7
          have HLL := Aside0.mk hll
          have HLKE := Aside0.mk hlk
          rw [hll] at hcut
          have HCL := Aside0.mk (ref01_Get_calls A6 (c - 8) lk wr HLB.out (by have := HC.out; omega) (byteOk_take HOB.out 4))
          clear hR6 hr1 hlk hll
          go_wp2_with fail
          refine HCL.out.mono ?_
          rintro e w2 ⟨rfl, rfl⟩
          clear HCL hcut
          by_cases hsh : lk.length < 4
          · have HER := Aside0.mk (show callG l = callZ 4 by
              rw [HCG.out]
              exact callH_err (by omega) (h7_err HH7.out (some 2) [none, none, none, none] rfl (by rw [numG_few hsh, if_neg (show ¬ ((4 : Int) = 0) by decide)]) (by omega)))
            rw [if_pos hsh, if_pos hsh]
            clear hsh
            have HTH := there_of6 HZR.out rfl
            have hbz := HBE.out
            go_wp2_with (with_reducible refine gate_store (t := 28) rfl ?_; refine wpList_store_mid rfl 28 (.tmp 2) (.tmp 32) rfl w.heap.size 0 #[.int .u32 0, .int .u32 0, .int .u32 0, .int .u32 0, .int .u32 0, .string ⟨#[]⟩, .int .u32 0, .int .u32 0, .int .u32 0, .slice none 0 0, .slice none 0 0] rfl rfl HTH (by kernel_rfl) (by simp [Value.oneCell']) ?_; generalize hws : World.setCells _ w.heap.size 0 _ = ws)
            have kz : Blk11 ws w.heap.size #[.int .u32 0, .int .u32 0, .int .u32 0, .int .u32 0, .int .u32 0, .string ⟨#[]⟩, .int .u32 0, .int .u32 0, .int .u32 0, .slice none 0 0, .slice none 0 0] := by
              have h := Blk11.sets [.int .u32 0, .int .u32 0, .int .u32 0, .int .u32 0, .int .u32 0, .string ⟨#[]⟩, .int .u32 0, .int .u32 0, .int .u32 0, .slice none 0 0, .slice none 0 0] 0 _ _ HZR.out
              rw [sets11] at h
              rw [← hws]
              exact h
            have HBZ : Below w.heap.size w ws := by rw [← hws]; exact below_setCells w.heap.size (Nat.le_refl _) _ _ _ hbz
            have r0 := kz.cell 0; have r1 := kz.cell 1; have r2 := kz.cell 2; have r3 := kz.cell 3; have r4 := kz.cell 4; have r5 := kz.cell 5; have r6 := kz.cell 6; have r7 := kz.cell 7; have r8 := kz.cell 8; have r9 := kz.cell 9; have r10 := kz.cell 10
            have hcg : callG l = callZ 4 := HER.out
            refine bodyPost_ret (v := .tuple #[.agg #[.int .u32 0, .int .u32 0, .int .u32 0, .int .u32 0, .int .u32 0, .string ⟨#[]⟩, .int .u32 0, .int .u32 0, .int .u32 0, .slice none 0 0, .slice none 0 0], .int .i64 4]) (by simp [results, Tryd.results16, go_sem, r0, r1, r2, r3, r4, r5, r6, r7, r8, r9, r10] <;> rfl) rfl ⟨.slice none 0 0, .slice none 0 0, ?_, ?_, ?_, HBZ⟩
            · rw [hcg]; rfl
            · rw [hcg]; exact Kd.R_nil _ _ _ _ _
            · rw [hcg]; exact Kd.R_nil _ _ _ _ _
          · rw [if_neg hsh, if_neg hsh]
            have HN := Aside0.mk (numG_of (Nat.le_of_not_lt hsh))
            have HRN := Aside0.mk (show R32 (deB (lk.take 4)) by have h := numG_range HOB.out 0; rw [HN.out] at h; exact h)
            have HSH := Aside0.mk hsh
            obtain ⟨n, hn⟩ : ∃ n, deB (lk.take 4) = n := ⟨_, rfl⟩
            rw [hn] at HN HRN ⊢
            clear hsh hn
            by_cases hb : n = 2
            · have HBD := Aside0.mk hb
              have qb : (n != 2) = false := by simp [hb]
              clear hb
              have HO := Aside0.mk HGR.out.row
              have HBA := Aside0.mk (show Below (w.heap.size + 1) w1 wr from HS1.out ▸ HGR.out.be)
              have HBS := Aside0.mk (show w.heap.size + 1 ≤ wr.heap.size by have := HGR.out.be.size; have := HS1.out; omega)
              have HLT := Aside0.mk (show (ns.length + 1) * 4 ≤ 140737488355328 by rw [HGR.out.nl]; decide)
              go_wp2_with (at_builtin; refine Kd.R_append (Kd.int .u32) (w0 := w1) (w.heap.size + 1) rfl _ _ 23 22 (.int .u32 0) 4 rfl Tryd.underlying23 info_t32q rfl (by decide) (by decide) (.slice A4 ns.length c4) ns n [.int .u32 n] (fun _ => True) (fun _ => False) (by rfl) (by rfl) rfl (fun _ h => h.elim) (fun _ _ => trivial) HO.out HBA.out HBS.out HLT.out ?_; intro V3 w3 ho3 hb3 hg3 hat3; have HO3 := Aside0.mk ho3; have HB3 := Aside0.mk hb3; clear ho3 hb3 hg3 hat3)
              go_roundw
              case rel =>
                refine ⟨2 + 1, ns ++ [n], by omega, by go_num, (HS1.out ▸ HB3.out), HO3.out, by rw [List.length_append, HGR.out.nl]; rfl, by have h1 := HSH.out; have h2 := HLL.out; omega, ?_, fun h => absurd h (by decide)⟩
                have h := h7_next HH7.out (some 2) [none, none, none, none] rfl rfl (by rw [HN.out, if_pos rfl]; exact (by unfold askG; dsimp only; rw [if_pos HBD.out]))
                rw [HN.out] at h
                rw [show l.drop (4 * (2 + 1)) = lk.drop 4 by rw [← HLKE.out, List.drop_drop]]
                exact h
              case measure => simp [intOf]
            · have qb : (n != 2) = true := bne_iff_ne.mpr hb
              have HER := Aside0.mk (show callG l = callZ 5 by
                rw [HCG.out]
                exact callH_err (by omega) (h7_err HH7.out (some 2) [none, none, none, none] rfl (by rw [HN.out, if_pos rfl]; unfold askG; dsimp only; rw [if_neg hb]) (by omega)))
              clear hb
              have HTH := there_of6 HZR.out rfl
              have hbz := HBE.out
              go_wp2_with (with_reducible refine gate_store (t := 28) rfl ?_; refine wpList_store_mid rfl 28 (.tmp 2) (.tmp 56) rfl w.heap.size 0 #[.int .u32 0, .int .u32 0, .int .u32 0, .int .u32 0, .int .u32 0, .string ⟨#[]⟩, .int .u32 0, .int .u32 0, .int .u32 0, .slice none 0 0, .slice none 0 0] rfl rfl HTH (by kernel_rfl) (by simp [Value.oneCell']) ?_; generalize hws : World.setCells _ w.heap.size 0 _ = ws)
              have kz : Blk11 ws w.heap.size #[.int .u32 0, .int .u32 0, .int .u32 0, .int .u32 0, .int .u32 0, .string ⟨#[]⟩, .int .u32 0, .int .u32 0, .int .u32 0, .slice none 0 0, .slice none 0 0] := by
                have h := Blk11.sets [.int .u32 0, .int .u32 0, .int .u32 0, .int .u32 0, .int .u32 0, .string ⟨#[]⟩, .int .u32 0, .int .u32 0, .int .u32 0, .slice none 0 0, .slice none 0 0] 0 _ _ HZR.out
                rw [sets11] at h
                rw [← hws]
                exact h
              have HBZ : Below w.heap.size w ws := by rw [← hws]; exact below_setCells w.heap.size (Nat.le_refl _) _ _ _ hbz
              have r0 := kz.cell 0; have r1 := kz.cell 1; have r2 := kz.cell 2; have r3 := kz.cell 3; have r4 := kz.cell 4; have r5 := kz.cell 5; have r6 := kz.cell 6; have r7 := kz.cell 7; have r8 := kz.cell 8; have r9 := kz.cell 9; have r10 := kz.cell 10
              have hcg : callG l = callZ 5 := HER.out
              refine bodyPost_ret (v := .tuple #[.agg #[.int .u32 0, .int .u32 0, .int .u32 0, .int .u32 0, .int .u32 0, .string ⟨#[]⟩, .int .u32 0, .int .u32 0, .int .u32 0, .slice none 0 0, .slice none 0 0], .int .i64 5]) (by simp [results, Tryd.results16, go_sem, r0, r1, r2, r3, r4, r5, r6, r7, r8, r9, r10] <;> rfl) rfl ⟨.slice none 0 0, .slice none 0 0, ?_, ?_, ?_, HBZ⟩
              · rw [hcg]; rfl
              · rw [hcg]; exact Kd.R_nil _ _ _ _ _
              · rw [hcg]; exact Kd.R_nil _ _ _ _ _
        · obtain ⟨A6, hcut, hR6⟩ := from_ A l c 12 12 rfl HLK.out HC.out
          have hr1 := HRR.out
          have HLB := Aside0.mk (hR6 wr hr1)
          have HOB := Aside0.mk (byteOk_drop HOK.out 12)
          obtain ⟨lk, hlk⟩ : ∃ lk, l.drop 12 = lk := ⟨_, rfl⟩
          have hll : l.length - 12 = lk.length := by rw [← hlk, List.length_drop]
          have HH7 := Aside0.mk HGR.out.h7
          rw [show 4 * 3 = 12 from rfl] at HH7
          rw [hlk] at HLB HOB HH7
          have HLL := Aside0.mk hll
          have HLKE := Aside0.mk hlk
          rw [hll] at hcut
          have HCL := Aside0.mk (ref01_Get_calls A6 (c - 12) lk wr HLB.out (by have := HC.out; omega) (byteOk_take HOB.out 4))
          clear hR6 hr1 hlk hll
          go_wp2_with fail
          refine HCL.out.mono ?_
          rintro e w2 ⟨rfl, rfl⟩
          clear HCL hcut
          by_cases hsh : lk.length < 4
          · have HER := Aside0.mk (show callG l = callZ 4 by
              rw [HCG.out]
              exact callH_err (by omega) (h7_err HH7.out (none) [none, none, none] rfl (by rw [numG_few hsh, if_neg (show ¬ ((4 : Int) = 0) by decide)]) (by omega)))
            rw [if_pos hsh, if_pos hsh]
            clear hsh
            have HTH := there_of6 HZR.out rfl
            have hbz := HBE.out
            go_wp2_with (with_reducible refine gate_store (t := 28) rfl ?_; refine wpList_store_mid rfl 28 (.tmp 2) (.tmp 32) rfl w.heap.size 0 #[.int .u32 0, .int .u32 0, .int .u32 0, .int .u32 0, .int .u32 0, .string ⟨#[]⟩, .int .u32 0, .int .u32 0, .int .u32 0, .slice none 0 0, .slice none 0 0] rfl rfl HTH (by kernel_rfl) (by simp [Value.oneCell']) ?_; generalize hws : World.setCells _ w.heap.size 0 _ = ws)
            have kz : Blk11 ws w.heap.size #[.int .u32 0, .int .u32 0, .int .u32 0, .int .u32 0, .int .u32 0, .string ⟨#[]⟩, .int .u32 0, .int .u32 0, .int .u32 0, .slice none 0 0, .slice none 0 0] := by
              have h := Blk11.sets [.int .u32 0, .int .u32 0, .int .u32 0, .int .u32 0, .int .u32 0, .string ⟨#[]⟩, .int .u32 0, .int .u32 0, .int .u32 0, .slice none 0 0, .slice none 0 0] 0 _ _ HZR.out
              rw [sets11] at h
              rw [← hws]
              exact h
            have HBZ : Below w.heap.size w ws := by rw [← hws]; exact below_setCells w.heap.size (Nat.le_refl _) _ _ _ hbz
            have r0 := kz.cell 0; have r1 := kz.cell 1; have r2 := kz.cell 2; have r3 := kz.cell 3; have r4 := kz.cell 4; have r5 := kz.cell 5; have r6 := kz.cell 6; have r7 := kz.cell 7; have r8 := kz.cell 8; have r9 := kz.cell 9; have r10 := kz.cell 10
            have hcg : callG l = callZ 4 := HER.out
            refine bodyPost_ret (v := .tuple #[.agg #[.int .u32 0, .int .u32 0, .int .u32 0, .int .u32 0, .int .u32 0, .string ⟨#[]⟩, .int .u32 0, .int .u32 0, .int .u32 0, .slice none 0 0, .slice none 0 0], .int .i64 4]) (by simp [results, Tryd.results16, go_sem, r0, r1, r2, r3, r4, r5, r6, r7, r8, r9, r10] <;> rfl) rfl ⟨.slice none 0 0, .slice none 0 0, ?_, ?_, ?_, HBZ⟩
            · rw [hcg]; rfl
            · rw [hcg]; exact Kd.R_nil _ _ _ _ _
            · rw [hcg]; exact Kd.R_nil _ _ _ _ _
          · rw [if_neg hsh, if_neg hsh]
            have HN := Aside0.mk (numG_of (Nat.le_of_not_lt hsh))
            have HRN := Aside0.mk (show R32 (deB (lk.take 4)) by have h := numG_range HOB.out 0; rw [HN.out] at h; exact h)
            have HSH := Aside0.mk hsh
            obtain ⟨n, hn⟩ : ∃ n, deB (lk.take 4) = n := ⟨_, rfl⟩
            rw [hn] at HN HRN ⊢
            clear hsh hn
            have HO := Aside0.mk HGR.out.row
            have HBA := Aside0.mk (show Below (w.heap.size + 1) w1 wr from HS1.out ▸ HGR.out.be)
            have HBS := Aside0.mk (show w.heap.size + 1 ≤ wr.heap.size by have := HGR.out.be.size; have := HS1.out; omega)
            have HLT := Aside0.mk (show (ns.length + 1) * 4 ≤ 140737488355328 by rw [HGR.out.nl]; decide)
            go_wp2_with (at_builtin; refine Kd.R_append (Kd.int .u32) (w0 := w1) (w.heap.size + 1) rfl _ _ 23 22 (.int .u32 0) 4 rfl Tryd.underlying23 info_t32q rfl (by decide) (by decide) (.slice A4 ns.length c4) ns n [.int .u32 n] (fun _ => True) (fun _ => False) (by rfl) (by rfl) rfl (fun _ h => h.elim) (fun _ _ => trivial) HO.out HBA.out HBS.out HLT.out ?_; intro V3 w3 ho3 hb3 hg3 hat3; have HO3 := Aside0.mk ho3; have HB3 := Aside0.mk hb3; clear ho3 hb3 hg3 hat3)
            go_roundw
            case rel =>
              refine ⟨3 + 1, ns ++ [n], by omega, by go_num, (HS1.out ▸ HB3.out), HO3.out, by rw [List.length_append, HGR.out.nl]; rfl, by have h1 := HSH.out; have h2 := HLL.out; omega, ?_, fun h => absurd h (by decide)⟩
              have h := h7_next HH7.out (none) [none, none, none] rfl rfl (by rw [HN.out, if_pos rfl]; exact rfl)
              rw [HN.out] at h
              rw [show l.drop (4 * (3 + 1)) = lk.drop 4 by rw [← HLKE.out, List.drop_drop]]
              exact h
            case measure => simp [intOf]
        · obtain ⟨A6, hcut, hR6⟩ := from_ A l c 16 16 rfl HLK.out HC.out
          have hr1 := HRR.out
          have HLB := Aside0.mk (hR6 wr hr1)
          have HOB := Aside0.mk (byteOk_drop HOK.out 16)
          obtain ⟨lk, hlk⟩ : ∃ lk, l.drop 16 = lk := ⟨_, rfl⟩
          have hll : l.length - 16 = lk.length := by rw [← hlk, List.length_drop]
          have HH7 := Aside0.mk HGR.out.h7
          rw [show 4 * 4 = 16 from rfl] at HH7
          rw [hlk] at HLB HOB HH7
          have HLL := Aside0.mk hll
          have HLKE := Aside0.mk hlk
          rw [hll] at hcut
          have HCL := Aside0.mk (ref01_Get_calls A6 (c - 16) lk wr HLB.out (by have := HC.out; omega) (byteOk_take HOB.out 4))
          clear hR6 hr1 hlk hll
          go_wp2_with fail
          refine HCL.out.mono ?_
          rintro e w2 ⟨rfl, rfl⟩
          clear HCL hcut
          by_cases hsh : lk.length < 4
          · have HER := Aside0.mk (show callG l = callZ 4 by
              rw [HCG.out]
              exact callH_err (by omega) (h7_err HH7.out (none) [none, none] rfl (by rw [numG_few hsh, if_neg (show ¬ ((4 : Int) = 0) by decide)]) (by omega)))
            rw [if_pos hsh, if_pos hsh]
            clear hsh
            have HTH := there_of6 HZR.out rfl
            have hbz := HBE.out
            go_wp2_with (with_reducible refine gate_store (t := 28) rfl ?_; refine wpList_store_mid rfl 28 (.tmp 2) (.tmp 32) rfl w.heap.size 0 #[.int .u32 0, .int .u32 0, .int .u32 0, .int .u32 0, .int .u32 0, .string ⟨#[]⟩, .int .u32 0, .int .u32 0, .int .u32 0, .slice none 0 0, .slice none 0 0] rfl rfl HTH (by kernel_rfl) (by simp [Value.oneCell']) ?_; generalize hws : World.setCells _ w.heap.size 0 _ = ws)
            have kz : Blk11 ws w.heap.size #[.int .u32 0, .int .u32 0, .int .u32 0, .int .u32 0, .int .u32 0, .string ⟨#[]⟩, .int .u32 0, .int .u32 0, .int .u32 0, .slice none 0 0, .slice none 0 0] := by
              have h := Blk11.sets [.int .u32 0, .int .u32 0, .int .u32 0, .int .u32 0, .int .u32 0, .string ⟨#[]⟩, .int .u32 0, .int .u32 0, .int .u32 0, .slice none 0 0, .slice none 0 0] 0 _ _ HZR.out
              rw [sets11] at h
              rw [← hws]
              exact h
            have HBZ : Below w.heap.size w ws := by rw [← hws]; exact below_setCells w.heap.size (Nat.le_refl _) _ _ _ hbz
            have r0 := kz.cell 0; have r1 := kz.cell 1; have r2 := kz.cell 2; have r3 := kz.cell 3; have r4 := kz.cell 4; have r5 := kz.cell 5; have r6 := kz.cell 6; have r7 := kz.cell 7; have r8 := kz.cell 8; have r9 := kz.cell 9; have r10 := kz.cell 10
            have hcg : callG l = callZ 4 := HER.out
            refine bodyPost_ret (v := .tuple #[.agg #[.int .u32 0, .int .u32 0, .int .u32 0, .int .u32 0, .int .u32 0, .string ⟨#[]⟩, .int .u32 0, .int .u32 0, .int .u32 0, .slice none 0 0, .slice none 0 0], .int .i64 4]) (by simp [results, Tryd.results16, go_sem, r0, r1, r2, r3, r4, r5, r6, r7, r8, r9, r10] <;> rfl) rfl ⟨.slice none 0 0, .slice none 0 0, ?_, ?_, ?_, HBZ⟩
            · rw [hcg]; rfl
            · rw [hcg]; exact Kd.R_nil _ _ _ _ _
            · rw [hcg]; exact Kd.R_nil _ _ _ _ _
          · rw [if_neg hsh, if_neg hsh]
            have HN := Aside0.mk (numG_of (Nat.le_of_not_lt hsh))
            have HRN := Aside0.mk (show R32 (deB (lk.take 4)) by have h := numG_range HOB.out 0; rw [HN.out] at h; exact h)
            have HSH := Aside0.mk hsh
            obtain ⟨n, hn⟩ : ∃ n, deB (lk.take 4) = n := ⟨_, rfl⟩
            rw [hn] at HN HRN ⊢
            clear hsh hn
            have HO := Aside0.mk HGR.out.row
            have HBA := Aside0.mk (show Below (w.heap.size + 1) w1 wr from HS1.out ▸ HGR.out.be)
            have HBS := Aside0.mk (show w.heap.size + 1 ≤ wr.heap.size by have := HGR.out.be.size; have := HS1.out; omega)
            have HLT := Aside0.mk (show (ns.length + 1) * 4 ≤ 140737488355328 by rw [HGR.out.nl]; decide)
            go_wp2_with (at_builtin; refine Kd.R_append (Kd.int .u32) (w0 := w1) (w.heap.size + 1) rfl _ _ 23 22 (.int .u32 0) 4 rfl Tryd.underlying23 info_t32q rfl (by decide) (by decide) (.slice A4 ns.length c4) ns n [.int .u32 n] (fun _ => True) (fun _ => False) (by rfl) (by rfl) rfl (fun _ h => h.elim) (fun _ _ => trivial) HO.out HBA.out HBS.out HLT.out ?_; intro V3 w3 ho3 hb3 hg3 hat3; have HO3 := Aside0.mk ho3; have HB3 := Aside0.mk hb3; clear ho3 hb3 hg3 hat3)
            go_roundw
            case rel =>
              refine ⟨4 + 1, ns ++ [n], by omega, by go_num, (HS1.out ▸ HB3.out), HO3.out, by rw [List.length_append, HGR.out.nl]; rfl, by have h1 := HSH.out; have h2 := HLL.out; omega, ?_, fun h => absurd h (by decide)⟩
              have h := h7_next HH7.out (none) [none, none] rfl rfl (by rw [HN.out, if_pos rfl]; exact rfl)
              rw [HN.out] at h
              rw [show l.drop (4 * (4 + 1)) = lk.drop 4 by rw [← HLKE.out, List.drop_drop]]
              exact h
            case measure => simp [intOf]
        · obtain ⟨A6, hcut, hR6⟩ := from_ A l c 20 20 rfl HLK.out HC.out
          have hr1 := HRR.out
          have HLB := Aside0.mk (hR6 wr hr1)
          have HOB := Aside0.mk (byteOk_drop HOK.out 20)
          obtain ⟨lk, hlk⟩ : ∃ lk, l.drop 20 = lk := ⟨_, rfl⟩
          have hll : l.length - 20 = lk.length := by rw [← hlk, List.length_drop]
          have HH7 := Aside0.mk HGR.out.h7
          rw [show 4 * 5 = 20 from rfl] at HH7
          rw [hlk] at HLB HOB HH7
          have HLL := Aside0.mk hll
          have HLKE := Aside0.mk hlk
          rw [hll] at hcut
          have HCL := Aside0.mk (ref01_Get_calls A6 (c - 20) lk wr HLB.out (by have := HC.out; omega) (byteOk_take HOB.out 4))
          clear hR6 hr1 hlk hll
          go_wp2_with fail
          refine HCL.out.mono ?_
          rintro e w2 ⟨rfl, rfl⟩
          clear HCL hcut
          by_cases hsh : lk.length < 4
          · have HER := Aside0.mk (show callG l = callZ 4 by
              rw [HCG.out]
              exact callH_err (by omega) (h7_err HH7.out (none) [none] rfl (by rw [numG_few hsh, if_neg (show ¬ ((4 : Int) = 0) by decide)]) (by omega)))
            rw [if_pos hsh, if_pos hsh]
            clear hsh
            have HTH := there_of6 HZR.out rfl
            have hbz := HBE.out
            go_wp2_with (with_reducible refine gate_store (t := 28) rfl ?_; refine wpList_store_mid rfl 28 (.tmp 2) (.tmp 32) rfl w.heap.size 0 #[.int .u32 0, .int .u32 0, .int .u32 0, .int .u32 0, .int .u32 0, .string ⟨#[]⟩, .int .u32 0, .int .u32 0, .int .u32 0, .slice none 0 0, .slice none 0 0] rfl rfl HTH (by kernel_rfl) (by simp [Value.oneCell']) ?_; generalize hws : World.setCells _ w.heap.size 0 _ = ws)
            have kz : Blk11 ws w.heap.size #[.int .u32 0, .int .u32 0, .int .u32 0, .int .u32 0, .int .u32 0, .string ⟨#[]⟩, .int .u32 0, .int .u32 0, .int .u32 0, .slice none 0 0, .slice none 0 0] := by
              have h := Blk11.sets [.int .u32 0, .int .u32 0, .int .u32 0, .int .u32 0, .int .u32 0, .string ⟨#[]⟩, .int .u32 0, .int .u32 0, .int .u32 0, .slice none 0 0, .slice none 0 0] 0 _ _ HZR.out
              rw [sets11] at h
              rw [← hws]
              exact h
            have HBZ : Below w.heap.size w ws := by rw [← hws]; exact below_setCells w.heap.size (Nat.le_refl _) _ _ _ hbz
            have r0 := kz.cell 0; have r1 := kz.cell 1; have r2 := kz.cell 2; have r3 := kz.cell 3; have r4 := kz.cell 4; have r5 := kz.cell 5; have r6 := kz.cell 6; have r7 := kz.cell 7; have r8 := kz.cell 8; have r9 := kz.cell 9; have r10 := kz.cell 10
            have hcg : callG l = callZ 4 := HER.out
            refine bodyPost_ret (v := .tuple #[.agg #[.int .u32 0, .int .u32 0, .int .u32 0, .int .u32 0, .int .u32 0, .string ⟨#[]⟩, .int .u32 0, .int .u32 0, .int .u32 0, .slice none 0 0, .slice none 0 0], .int .i64 4]) (by simp [results, Tryd.results16, go_sem, r0, r1, r2, r3, r4, r5, r6, r7, r8, r9, r10] <;> rfl) rfl ⟨.slice none 0 0, .slice none 0 0, ?_, ?_, ?_, HBZ⟩
            · rw [hcg]; rfl
            · rw [hcg]; exact Kd.R_nil _ _ _ _ _
            · rw [hcg]; exact Kd.R_nil _ _ _ _ _
          · rw [if_neg hsh, if_neg hsh]
            have HN := Aside0.mk (numG_of (Nat.le_of_not_lt hsh))
            have HRN := Aside0.mk (show R32 (deB (lk.take 4)) by have h := numG_range HOB.out 0; rw [HN.out] at h; exact h)
            have HSH := Aside0.mk hsh
            obtain ⟨n, hn⟩ : ∃ n, deB (lk.take 4) = n := ⟨_, rfl⟩
            rw [hn] at HN HRN ⊢
            clear hsh hn
            have HO := Aside0.mk HGR.out.row
            have HBA := Aside0.mk (show Below (w.heap.size + 1) w1 wr from HS1.out ▸ HGR.out.be)
            have HBS := Aside0.mk (show w.heap.size + 1 ≤ wr.heap.size by have := HGR.out.be.size; have := HS1.out; omega)
            have HLT := Aside0.mk (show (ns.length + 1) * 4 ≤ 140737488355328 by rw [HGR.out.nl]; decide)
            go_wp2_with (at_builtin; refine Kd.R_append (Kd.int .u32) (w0 := w1) (w.heap.size + 1) rfl _ _ 23 22 (.int .u32 0) 4 rfl Tryd.underlying23 info_t32q rfl (by decide) (by decide) (.slice A4 ns.length c4) ns n [.int .u32 n] (fun _ => True) (fun _ => False) (by rfl) (by rfl) rfl (fun _ h => h.elim) (fun _ _ => trivial) HO.out HBA.out HBS.out HLT.out ?_; intro V3 w3 ho3 hb3 hg3 hat3; have HO3 := Aside0.mk ho3; have HB3 := Aside0.mk hb3; clear ho3 hb3 hg3 hat3)
            go_roundw
            case rel =>
              refine ⟨5 + 1, ns ++ [n], by omega, by go_num, (HS1.out ▸ HB3.out), HO3.out, by rw [List.length_append, HGR.out.nl]; rfl, by have h1 := HSH.out; have h2 := HLL.out; omega, ?_, fun h => absurd h (by decide)⟩
              have h := h7_next HH7.out (none) [none] rfl rfl (by rw [HN.out, if_pos rfl]; exact rfl)
              rw [HN.out] at h
              rw [show l.drop (4 * (5 + 1)) = lk.drop 4 by rw [← HLKE.out, List.drop_drop]]
              exact h
            case measure => simp [intOf]
        · obtain ⟨A6, hcut, hR6⟩ := from_ A l c 24 24 rfl HLK.out HC.out
          have hr1 := HRR.out
          have HLB := Aside0.mk (hR6 wr hr1)
          have HOB := Aside0.mk (byteOk_drop HOK.out 24)
          obtain ⟨lk, hlk⟩ : ∃ lk, l.drop 24 = lk := ⟨_, rfl⟩
          have hll : l.length - 24 = lk.length := by rw [← hlk, List.length_drop]
          have HH7 := Aside0.mk HGR.out.h7
          rw [show 4 * 6 = 24 from rfl] at HH7
          rw [hlk] at HLB HOB HH7
          have HLL := Aside0.mk hll
          have HLKE := Aside0.mk hlk
          rw [hll] at hcut
          have HCL := Aside0.mk (ref01_Get_calls A6 (c - 24) lk wr HLB.out (by have := HC.out; omega) (byteOk_take HOB.out 4))
          clear hR6 hr1 hlk hll
          go_wp2_with fail
          refine HCL.out.mono ?_
          rintro e w2 ⟨rfl, rfl⟩
          clear HCL hcut
          by_cases hsh : lk.length < 4
          · have HER := Aside0.mk (show callG l = callZ 4 by
              rw [HCG.out]
              exact callH_err (by omega) (h7_err HH7.out (none) [] rfl (by rw [numG_few hsh, if_neg (show ¬ ((4 : Int) = 0) by decide)]) (by omega)))
            rw [if_pos hsh, if_pos hsh]
            clear hsh
            have HTH := there_of6 HZR.out rfl
            have hbz := HBE.out
            go_wp2_with (with_reducible refine gate_store (t := 28) rfl ?_; refine wpList_store_mid rfl 28 (.tmp 2) (.tmp 32) rfl w.heap.size 0 #[.int .u32 0, .int .u32 0, .int .u32 0, .int .u32 0, .int .u32 0, .string ⟨#[]⟩, .int .u32 0, .int .u32 0, .int .u32 0, .slice none 0 0, .slice none 0 0] rfl rfl HTH (by kernel_rfl) (by simp [Value.oneCell']) ?_; generalize hws : World.setCells _ w.heap.size 0 _ = ws)
            have kz : Blk11 ws w.heap.size #[.int .u32 0, .int .u32 0, .int .u32 0, .int .u32 0, .int .u32 0, .string ⟨#[]⟩, .int .u32 0, .int .u32 0, .int .u32 0, .slice none 0 0, .slice none 0 0] := by
              have h := Blk11.sets [.int .u32 0, .int .u32 0, .int .u32 0, .int .u32 0, .int .u32 0, .string ⟨#[]⟩, .int .u32 0, .int .u32 0, .int .u32 0, .slice none 0 0, .slice none 0 0] 0 _ _ HZR.out
              rw [sets11] at h
              rw [← hws]
              exact h
            have HBZ : Below w.heap.size w ws := by rw [← hws]; exact below_setCells w.heap.size (Nat.le_refl _) _ _ _ hbz
            have r0 := kz.cell 0; have r1 := kz.cell 1; have r2 := kz.cell 2; have r3 := kz.cell 3; have r4 := kz.cell 4; have r5 := kz.cell 5; have r6 := kz.cell 6; have r7 := kz.cell 7; have r8 := kz.cell 8; have r9 := kz.cell 9; have r10 := kz.cell 10
            have hcg : callG l = callZ 4 := HER.out
            refine bodyPost_ret (v := .tuple #[.agg #[.int .u32 0, .int .u32 0, .int .u32 0, .int .u32 0, .int .u32 0, .string ⟨#[]⟩, .int .u32 0, .int .u32 0, .int .u32 0, .slice none 0 0, .slice none 0 0], .int .i64 4]) (by simp [results, Tryd.results16, go_sem, r0, r1, r2, r3, r4, r5, r6, r7, r8, r9, r10] <;> rfl) rfl ⟨.slice none 0 0, .slice none 0 0, ?_, ?_, ?_, HBZ⟩
            · rw [hcg]; rfl
            · rw [hcg]; exact Kd.R_nil _ _ _ _ _
            · rw [hcg]; exact Kd.R_nil _ _ _ _ _
          · rw [if_neg hsh, if_neg hsh]
            have HN := Aside0.mk (numG_of (Nat.le_of_not_lt hsh))
            have HRN := Aside0.mk (show R32 (deB (lk.take 4)) by have h := numG_range HOB.out 0; rw [HN.out] at h; exact h)
            have HSH := Aside0.mk hsh
            obtain ⟨n, hn⟩ : ∃ n, deB (lk.take 4) = n := ⟨_, rfl⟩
            rw [hn] at HN HRN ⊢
            clear hsh hn
            by_cases hb : n ≤ 1
            · have HBD := Aside0.mk hb
              have qb : decide (n > 1) = false := decide_eq_false (by omega)
              clear hb
              have HO := Aside0.mk HGR.out.row
              have HBA := Aside0.mk (show Below (w.heap.size + 1) w1 wr from HS1.out ▸ HGR.out.be)
              have HBS := Aside0.mk (show w.heap.size + 1 ≤ wr.heap.size by have := HGR.out.be.size; have := HS1.out; omega)
              have HLT := Aside0.mk (show (ns.length + 1) * 4 ≤ 140737488355328 by rw [HGR.out.nl]; decide)
              go_wp2_with (at_builtin; refine Kd.R_append (Kd.int .u32) (w0 := w1) (w.heap.size + 1) rfl _ _ 23 22 (.int .u32 0) 4 rfl Tryd.underlying23 info_t32q rfl (by decide) (by decide) (.slice A4 ns.length c4) ns n [.int .u32 n] (fun _ => True) (fun _ => False) (by rfl) (by rfl) rfl (fun _ h => h.elim) (fun _ _ => trivial) HO.out HBA.out HBS.out HLT.out ?_; intro V3 w3 ho3 hb3 hg3 hat3; have HO3 := Aside0.mk ho3; have HB3 := Aside0.mk hb3; clear ho3 hb3 hg3 hat3)
              go_roundw
              case rel =>
                refine ⟨6 + 1, ns ++ [n], by omega, by go_num, (HS1.out ▸ HB3.out), HO3.out, by rw [List.length_append, HGR.out.nl]; rfl, by have h1 := HSH.out; have h2 := HLL.out; omega, ?_, fun _ => by have h := HGR.out.nl; have h2 := HBD.out; rw [show rd (ns ++ [n]) 6 = n by unfold rd; rw [List.getD_eq_getElem?_getD, show ((6 : Int)).toNat = ns.length by rw [h]; rfl, List.getElem?_concat_length]; rfl]; exact h2⟩
                have h := h7_next HH7.out (none) [] rfl rfl (by rw [HN.out, if_pos rfl]; exact rfl)
                rw [HN.out] at h
                rw [show l.drop (4 * (6 + 1)) = lk.drop 4 by rw [← HLKE.out, List.drop_drop]]
                exact h
              case measure => simp [intOf]
            · have qb : decide (n > 1) = true := decide_eq_true (by omega)
              have HER := Aside0.mk (show callG l = callZ 5 by
                have h := h7_next HH7.out none [] rfl rfl (by rw [HN.out, if_pos rfl]; rfl)
                rw [HN.out] at h
                unfold H7 at h
                rw [HCG.out]
                refine callH_fla ?_ (by omega)
                rw [h]
                have hl := HGR.out.nl
                dsimp only
                rw [show rd (ns ++ [n] ++ (hdS (callAsk.drop (6 + 1)) (lk.drop 4) 0).1) 6 = n by
                  rw [show (hdS (callAsk.drop (6 + 1)) (lk.drop 4) 0).1 = [] from rfl, List.append_nil]
                  unfold rd; rw [List.getD_eq_getElem?_getD, show ((6 : Int)).toNat = ns.length by rw [hl]; rfl, List.getElem?_concat_length]; rfl]
                show flaG n 0 = 5
                unfold flaG
                rw [if_pos rfl, if_pos (by omega)])
              clear hb
              have HTH := there_of6 HZR.out rfl
              have hbz := HBE.out
              go_wp2_with (with_reducible refine gate_store (t := 28) rfl ?_; refine wpList_store_mid rfl 28 (.tmp 2) (.tmp 56) rfl w.heap.size 0 #[.int .u32 0, .int .u32 0, .int .u32 0, .int .u32 0, .int .u32 0, .string ⟨#[]⟩, .int .u32 0, .int .u32 0, .int .u32 0, .slice none 0 0, .slice none 0 0] rfl rfl HTH (by kernel_rfl) (by simp [Value.oneCell']) ?_; generalize hws : World.setCells _ w.heap.size 0 _ = ws)
              have kz : Blk11 ws w.heap.size #[.int .u32 0, .int .u32 0, .int .u32 0, .int .u32 0, .int .u32 0, .string ⟨#[]⟩, .int .u32 0, .int .u32 0, .int .u32 0, .slice none 0 0, .slice none 0 0] := by
                have h := Blk11.sets [.int .u32 0, .int .u32 0, .int .u32 0, .int .u32 0, .int .u32 0, .string ⟨#[]⟩, .int .u32 0, .int .u32 0, .int .u32 0, .slice none 0 0, .slice none 0 0] 0 _ _ HZR.out
                rw [sets11] at h
                rw [← hws]
                exact h
              have HBZ : Below w.heap.size w ws := by rw [← hws]; exact below_setCells w.heap.size (Nat.le_refl _) _ _ _ hbz
              have r0 := kz.cell 0; have r1 := kz.cell 1; have r2 := kz.cell 2; have r3 := kz.cell 3; have r4 := kz.cell 4; have r5 := kz.cell 5; have r6 := kz.cell 6; have r7 := kz.cell 7; have r8 := kz.cell 8; have r9 := kz.cell 9; have r10 := kz.cell 10
              have hcg : callG l = callZ 5 := HER.out
              refine bodyPost_ret (v := .tuple #[.agg #[.int .u32 0, .int .u32 0, .int .u32 0, .int .u32 0, .int .u32 0, .string ⟨#[]⟩, .int .u32 0, .int .u32 0, .int .u32 0, .slice none 0 0, .slice none 0 0], .int .i64 5]) (by simp [results, Tryd.results16, go_sem, r0, r1, r2, r3, r4, r5, r6, r7, r8, r9, r10] <;> rfl) rfl ⟨.slice none 0 0, .slice none 0 0, ?_, ?_, ?_, HBZ⟩
              · rw [hcg]; rfl
              · rw [hcg]; exact Kd.R_nil _ _ _ _ _
              · rw [hcg]; exact Kd.R_nil _ _ _ _ _
end Go.Proofs.YtoalknneifpehaaDoor.Hand
