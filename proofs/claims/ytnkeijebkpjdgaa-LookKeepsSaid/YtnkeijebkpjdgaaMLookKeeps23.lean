import Derived.Test.YtnkeijebkpjdgaaMLookKeeps13
import Derived.Test.YtnkeijebkpjdgaaMLookKeeps21
import Derived.Test.YtnkeijebkpjdgaaMLookKeeps19
import Derived.Test.YtnkeijebkpjdgaaMLookKeeps15
import Derived.Test.YtnkeijebkpjdgaaMLookKeeps14
set_option linter.unusedVariables false
set_option linter.unusedSimpArgs false
/- Over the engine: no tree of no nodes. -/
namespace Go.Proofs.Ytnkeijebkpjdgaa.Ab
open Go Go.RowKit

set_option maxRecDepth 100000
theorem check_nil (m : Nat) (from_ : FuncId) (h : H) (tg : Int) : evCall TE (m + 12) from_ (.fn 7 [] []) [.agg [.sl0, .int .u32 tg]] h = some (.ret (.bool false), h) := by
  refine call_clean (fn := Try.f7) rfl Try.func7 rfl rfl rfl rfl rfl (Nat.le_of_ble_eq_true rfl) ?_
  conv => whnf
end Go.Proofs.Ytnkeijebkpjdgaa.Ab
/- Over the engine: what only looks: what is refused. -/
namespace Go.Proofs.Ytnkeijebkpjdgaa.Ab
open Go Go.RowKit

set_option maxRecDepth 100000
theorem procs_shape (p : Int) : findA (.int .u32 p) procsM 0 = some none ∨ ∃ i g, findA (.int .u32 p) procsM 0 = some (some (i, .fn g [] [])) := by
  cases hd : doesS p with
  | false => exact .inl (procs_none hd)
  | true =>
    unfold doesS at hd
    simp only [Bool.or_eq_true, beq_iff_eq] at hd
    rcases hd with rfl | rfl | rfl | rfl | rfl | rfl | rfl | rfl | rfl | rfl
    · exact .inl rfl
    all_goals exact .inr ⟨_, _, rfl⟩
def credL (c : CredS) : List AV := [.int .u32 c.user, .int .u32 c.group, c.gs]
theorem cred_one {c : CredS} (hc : c.ok) : oneL (credL c) = true := by
  have h := rowOne hc.1
  show (true && (true && (oneA c.gs && true))) = true
  rw [h]
  rfl
theorem cred_top {c : CredS} (hc : c.ok) : topL (credL c) = 0 := by
  have h := clean_top _ (row_clean hc.1)
  show max 0 (max 0 (max c.gs.top 0)) = 0
  rw [h]
  rfl
/-! A region in which a function that makes blocks of its own is called beside a load. -/
theorem draw5 {ops : Array Oper} {base : Nat} {bef : Array Nat} {r0 r1 r2 r3 r4 : Nat × Rec × H} (h0 : orderOk ops = true)
    (h1 : ((bef.getD r1.1 0).testBit r0.1 || (apartT ops (ops.getD r0.1 default) (ops.getD r1.1 default) && apartT ops (ops.getD r1.1 default) (ops.getD r0.1 default) && apart2 base r0 r1)) = true)
    (h2 : (apartT ops (ops.getD r0.1 default) (ops.getD r2.1 default) && apartT ops (ops.getD r2.1 default) (ops.getD r0.1 default) && apart2 base r0 r2) = true)
    (h3 : ((bef.getD r3.1 0).testBit r0.1 || (apartT ops (ops.getD r0.1 default) (ops.getD r3.1 default) && apartT ops (ops.getD r3.1 default) (ops.getD r0.1 default) && apart2 base r0 r3)) = true)
    (h4 : ((bef.getD r4.1 0).testBit r0.1 || (apartT ops (ops.getD r0.1 default) (ops.getD r4.1 default) && apartT ops (ops.getD r4.1 default) (ops.getD r0.1 default) && apart2 base r0 r4)) = true)
    (hr : drawOk ops base bef [r1, r2, r3, r4] = true) : (orderOk ops && drawOk ops base bef [r0, r1, r2, r3, r4]) = true := by
  rw [drawOk, h0, hr, List.all_cons, List.all_cons, List.all_cons, List.all_cons, List.all_nil, h1, h2, h3, h4]
  simp
theorem and3 {a b c : Bool} (h1 : a = true) (h2 : b = true) (h3 : c = true) : (a && b && c) = true := by rw [h1, h2, h3]; rfl
theorem all3 {α : Type} {f : α → Bool} {a b c : α} (h1 : f a = true) (h2 : f b = true) (h3 : f c = true) : [a, b, c].all f = true := by simp [h1, h2, h3]
theorem apart_cells {nid b off n : Nat} {h h' : H} {c : List AV} {i : BI} (h1 : h.bs[b]? = some (.cells c i)) (h2 : h'.bs[b]? = some (.cells c i)) (hs : sameL ((c.drop off).take n) ((c.drop off).take n) = true) : apartW nid h (.heap h') (.cells b off n) = true := by
  simp only [apartW, h1, h2, hs, Bool.and_true, beq_self_eq_true, Bool.true_and]
  unfold sameInfo
  simp
theorem same_int (k : IntKind) (n : Int) : sameL [.int k n] [.int k n] = true := by
  simp [sameL, AV.same]
/-- A call as it goes. -/
def workL (ns : List NodeS) (gen : Int) (c : CredS) (a : ArgsS) (ss sn : Int) (bo : Nat → Int) : List AV := [.sl (nodesA (ns.map cloneN)) ns.length true, .int .u32 gen] ++ (credL c ++ (argL a ++ (worldL ss sn bo ++ ([.int .i64 0] ++ ansA a.proc { stat := 0 }))))
theorem work_one {ns : List NodeS} {gen : Int} {c : CredS} {a : ArgsS} {ss sn : Int} {bo : Nat → Int} (hc : c.ok) (ha : a.ok) : oneL (workL ns gen c a ss sn bo) = true := by
  unfold workL
  rw [oneL_app, oneL_app, oneL_app, oneL_app, oneL_app, cred_one hc, args_one ha]
  rfl
theorem work_top {ns : List NodeS} {gen : Int} {c : CredS} {a : ArgsS} {ss sn : Int} {bo : Nat → Int} (hc : c.ok) (ha : a.ok) : topL (workL ns gen c a ss sn bo) = 0 := by
  unfold workL
  rw [topL_app, topL_app, topL_app, topL_app, topL_app, cred_top hc, args_top ha]
  rfl
set_option maxHeartbeats 8000000 in
theorem look_not (m : Nat) (from_ : FuncId) (h : H) (ns : List NodeS) (t : Bool) (gen : Int) (c : CredS) (hc : c.ok) (a : ArgsS) (ha : a.ok) (ss sn : Int) (bo : Nat → Int) (hok : ∀ x ∈ ns, x.fit) (hlen : ns.length ≤ 1025) (hlen2 : ns ≠ []) (hK : ∀ (f : FuncId) (h : H), evCall TE (m + 29) f (.fn 7 [] []) [.agg [.sl (nodesA ns) ns.length t, .int .u32 gen]] h = some (.ret (.bool true), h)) (hd : doesS a.proc = false) : evCall TE (m + 30) from_ (.fn 9 [] []) [.agg [.sl (nodesA ns) ns.length t, .int .u32 gen], .agg (credL c), .agg (argL a), .agg (worldL ss sn bo)] h = some (.ret (.tup [.agg [.sl (nodesA (ns.map cloneN)) ns.length true, .int .u32 gen], .agg (ansA a.proc { stat := 10004 })]), h) := by
  have cT : ∀ (h : H), (evAll TE (m + 29)).1 9 (.fn 30 [] []) [.agg [.sl (nodesA ns) ns.length t, .int .u32 gen]] h = some (.ret (.agg [.sl (nodesA (ns.map cloneN)) ns.length true, .int .u32 gen]), h) := fun h => twinL_c (m + 27) h ns t gen hok hlen hlen2
  have cD : ∀ (f : FuncId) (h : H), (evAll TE (m + 29)).1 f (.fn 32 [] []) [.int .u32 a.proc] h = some (.ret (.bool (doesS a.proc)), h) := fun f h => does_c (m + 27) f h a.proc
  have cK : ∀ (f : FuncId) (h : H), (evAll TE (m + 29)).1 f (.fn 7 [] []) [.agg [.sl (nodesA ns) ns.length t, .int .u32 gen]] h = some (.ret (.bool true), h) := hK
  have cN : ∀ (f : FuncId) (h : H), (evAll TE (m + 29)).1 f (.fn 26 [] []) [.agg [.int .u32 ss, .int .u32 sn]] h = some (.ret (.bool (nanoOk sn)), h) := fun f h => times_c (m + 28) f h ss sn
  have hone1 := cred_one hc
  have hone2 := args_one ha
  have hone3 := work_one (ns := ns) (gen := gen) (ss := ss) (sn := sn) (bo := bo) hc ha
  have htop3 := work_top (ns := ns) (gen := gen) (ss := ss) (sn := sn) (bo := bo) hc ha
  clear hK
  have hf := procs_none hd
  have hcl : cleanL [.agg [.sl (nodesA ns) ns.length t, .int .u32 gen], .agg (credL c), .agg (argL a), .agg (worldL ss sn bo)] = true := by
    have h1 := row_clean hc.1
    have h2 := row_clean ha.h
    have h3 := row_clean ha.h2
    have h4 := row_clean ha.data
    simp [cleanL, AV.clean, credL, argL, worldL, h1, h2, h3, h4]
  refine call_clean (fn := Try.f9) rfl Try.func9 rfl rfl hcl rfl rfl (Nat.le_of_ble_eq_true rfl) ?_
  conv => whnf
  (refine runK_ret (ev_box rfl hone1) ?_)
  conv => whnf
  (refine runK_ret (ev_box rfl hone2) ?_)
  conv => whnf
  with_reducible refine ⟨_, _, cT _, ?_⟩
  conv => whnf
  (refine ⟨by kernel_rfl, ?_⟩)
  conv => whnf
  (refine runK_ret (ev_box rfl hone3) ?_)
  conv => whnf
  (refine listK_of (if_pos (Nat.le_trans (Nat.le_of_eq htop3) (Nat.zero_le _))) ?_)
  conv => whnf
  (refine ⟨by kernel_rfl, ?_⟩)
  conv => whnf
  (refine call_raw (fn := Try.f31) rfl Try.func31 rfl rfl (Nat.le_of_ble_eq_true rfl) ?_)
  conv => whnf
  (refine runK_ret (v := .fn0) (w := .none) (by show (match findA (.int .u32 a.proc) procsM 0 with | some (some (_, v)) => _ | some none => _ | none => _) = _; rw [hf]; rfl) ?_)
  conv => whnf
  (refine ⟨draw5 (by kernel_rfl) (by kernel_rfl) (and3 (by kernel_rfl) (by kernel_rfl) (and3 (all3 (by kernel_rfl) (by kernel_rfl) (apart_cells rfl rfl (same_int _ _))) (by kernel_rfl) (by kernel_rfl))) (by kernel_rfl) (by kernel_rfl) (by kernel_rfl), ?_⟩)
  conv => whnf
  with_reducible refine ⟨_, _, cD _ _, ?_⟩
  conv => whnf
  ((with_reducible cases z0 : doesS a.proc) <;> try exact Bool.noConfusion (Eq.trans (Eq.symm z0) hd))
  conv => whnf
  (refine ⟨by kernel_rfl, ?_⟩)
  conv => whnf
  rfl
set_option maxHeartbeats 8000000 in
theorem look_late (m : Nat) (from_ : FuncId) (h : H) (ns : List NodeS) (t : Bool) (gen : Int) (c : CredS) (hc : c.ok) (a : ArgsS) (ha : a.ok) (ss sn : Int) (bo : Nat → Int) (hok : ∀ x ∈ ns, x.fit) (hlen : ns.length ≤ 1025) (hlen2 : ns ≠ []) (hK : ∀ (f : FuncId) (h : H), evCall TE (m + 29) f (.fn 7 [] []) [.agg [.sl (nodesA ns) ns.length t, .int .u32 gen]] h = some (.ret (.bool true), h)) (hd : doesS a.proc = true) (hno : nanoOk sn = false) : evCall TE (m + 30) from_ (.fn 9 [] []) [.agg [.sl (nodesA ns) ns.length t, .int .u32 gen], .agg (credL c), .agg (argL a), .agg (worldL ss sn bo)] h = some (.ret (.tup [.agg [.sl (nodesA (ns.map cloneN)) ns.length true, .int .u32 gen], .agg (ansA a.proc { stat := 10004 })]), h) := by
  have cT : ∀ (h : H), (evAll TE (m + 29)).1 9 (.fn 30 [] []) [.agg [.sl (nodesA ns) ns.length t, .int .u32 gen]] h = some (.ret (.agg [.sl (nodesA (ns.map cloneN)) ns.length true, .int .u32 gen]), h) := fun h => twinL_c (m + 27) h ns t gen hok hlen hlen2
  have cD : ∀ (f : FuncId) (h : H), (evAll TE (m + 29)).1 f (.fn 32 [] []) [.int .u32 a.proc] h = some (.ret (.bool (doesS a.proc)), h) := fun f h => does_c (m + 27) f h a.proc
  have cK : ∀ (f : FuncId) (h : H), (evAll TE (m + 29)).1 f (.fn 7 [] []) [.agg [.sl (nodesA ns) ns.length t, .int .u32 gen]] h = some (.ret (.bool true), h) := hK
  have cN : ∀ (f : FuncId) (h : H), (evAll TE (m + 29)).1 f (.fn 26 [] []) [.agg [.int .u32 ss, .int .u32 sn]] h = some (.ret (.bool (nanoOk sn)), h) := fun f h => times_c (m + 28) f h ss sn
  have hone1 := cred_one hc
  have hone2 := args_one ha
  have hone3 := work_one (ns := ns) (gen := gen) (ss := ss) (sn := sn) (bo := bo) hc ha
  have htop3 := work_top (ns := ns) (gen := gen) (ss := ss) (sn := sn) (bo := bo) hc ha
  clear hK
  have hcl : cleanL [.agg [.sl (nodesA ns) ns.length t, .int .u32 gen], .agg (credL c), .agg (argL a), .agg (worldL ss sn bo)] = true := by
    have h1 := row_clean hc.1
    have h2 := row_clean ha.h
    have h3 := row_clean ha.h2
    have h4 := row_clean ha.data
    simp [cleanL, AV.clean, credL, argL, worldL, h1, h2, h3, h4]
  rcases procs_shape a.proc with hf | ⟨i, g, hf⟩
  · refine call_clean (fn := Try.f9) rfl Try.func9 rfl rfl hcl rfl rfl (Nat.le_of_ble_eq_true rfl) ?_
    conv => whnf
    (refine runK_ret (ev_box rfl hone1) ?_)
    conv => whnf
    (refine runK_ret (ev_box rfl hone2) ?_)
    conv => whnf
    with_reducible refine ⟨_, _, cT _, ?_⟩
    conv => whnf
    (refine ⟨by kernel_rfl, ?_⟩)
    conv => whnf
    (refine runK_ret (ev_box rfl hone3) ?_)
    conv => whnf
    (refine listK_of (if_pos (Nat.le_trans (Nat.le_of_eq htop3) (Nat.zero_le _))) ?_)
    conv => whnf
    (refine ⟨by kernel_rfl, ?_⟩)
    conv => whnf
    (refine call_raw (fn := Try.f31) rfl Try.func31 rfl rfl (Nat.le_of_ble_eq_true rfl) ?_)
    conv => whnf
    (refine runK_ret (v := .fn0) (w := .none) (by show (match findA (.int .u32 a.proc) procsM 0 with | some (some (_, v)) => _ | some none => _ | none => _) = _; rw [hf]; rfl) ?_)
    conv => whnf
    (refine ⟨draw5 (by kernel_rfl) (by kernel_rfl) (and3 (by kernel_rfl) (by kernel_rfl) (and3 (all3 (by kernel_rfl) (by kernel_rfl) (apart_cells rfl rfl (same_int _ _))) (by kernel_rfl) (by kernel_rfl))) (by kernel_rfl) (by kernel_rfl) (by kernel_rfl), ?_⟩)
    conv => whnf
    with_reducible refine ⟨_, _, cD _ _, ?_⟩
    conv => whnf
    ((with_reducible cases z0 : doesS a.proc) <;> try exact Bool.noConfusion (Eq.trans (Eq.symm z0) hd))
    conv => whnf
    with_reducible refine ⟨_, _, cK _ _, ?_⟩
    conv => whnf
    with_reducible refine ⟨_, _, cN _ _, ?_⟩
    conv => whnf
    ((with_reducible cases z1 : nanoOk sn) <;> try exact Bool.noConfusion (Eq.trans (Eq.symm z1) hno))
    conv => whnf
    (refine ⟨by kernel_rfl, ?_⟩)
    conv => whnf
    rfl
  · refine call_clean (fn := Try.f9) rfl Try.func9 rfl rfl hcl rfl rfl (Nat.le_of_ble_eq_true rfl) ?_
    conv => whnf
    (refine runK_ret (ev_box rfl hone1) ?_)
    conv => whnf
    (refine runK_ret (ev_box rfl hone2) ?_)
    conv => whnf
    with_reducible refine ⟨_, _, cT _, ?_⟩
    conv => whnf
    (refine ⟨by kernel_rfl, ?_⟩)
    conv => whnf
    (refine runK_ret (ev_box rfl hone3) ?_)
    conv => whnf
    (refine listK_of (if_pos (Nat.le_trans (Nat.le_of_eq htop3) (Nat.zero_le _))) ?_)
    conv => whnf
    (refine ⟨by kernel_rfl, ?_⟩)
    conv => whnf
    (refine call_raw (fn := Try.f31) rfl Try.func31 rfl rfl (Nat.le_of_ble_eq_true rfl) ?_)
    conv => whnf
    (refine runK_ret (v := .fn g [] []) (w := .none) (by show (match findA (.int .u32 a.proc) procsM 0 with | some (some (_, v)) => _ | some none => _ | none => _) = _; rw [hf]; rfl) ?_)
    conv => whnf
    (refine ⟨draw5 (by kernel_rfl) (by kernel_rfl) (and3 (by kernel_rfl) (by kernel_rfl) (and3 (all3 (by kernel_rfl) (by kernel_rfl) (apart_cells rfl rfl (same_int _ _))) (by kernel_rfl) (by kernel_rfl))) (by kernel_rfl) (by kernel_rfl) (by kernel_rfl), ?_⟩)
    conv => whnf
    with_reducible refine ⟨_, _, cD _ _, ?_⟩
    conv => whnf
    ((with_reducible cases z0 : doesS a.proc) <;> try exact Bool.noConfusion (Eq.trans (Eq.symm z0) hd))
    conv => whnf
    with_reducible refine ⟨_, _, cK _ _, ?_⟩
    conv => whnf
    with_reducible refine ⟨_, _, cN _ _, ?_⟩
    conv => whnf
    ((with_reducible cases z1 : nanoOk sn) <;> try exact Bool.noConfusion (Eq.trans (Eq.symm z1) hno))
    conv => whnf
    (refine ⟨by kernel_rfl, ?_⟩)
    conv => whnf
    rfl
set_option maxHeartbeats 8000000 in
theorem look_null (m : Nat) (from_ : FuncId) (h : H) (ns : List NodeS) (t : Bool) (gen : Int) (c : CredS) (hc : c.ok) (a : ArgsS) (ha : a.ok) (ss sn : Int) (bo : Nat → Int) (hok : ∀ x ∈ ns, x.fit) (hlen : ns.length ≤ 1025) (hlen2 : ns ≠ []) (hK : ∀ (f : FuncId) (h : H), evCall TE (m + 29) f (.fn 7 [] []) [.agg [.sl (nodesA ns) ns.length t, .int .u32 gen]] h = some (.ret (.bool true), h)) (hp : a.proc = 0) (hno : nanoOk sn = true) : evCall TE (m + 30) from_ (.fn 9 [] []) [.agg [.sl (nodesA ns) ns.length t, .int .u32 gen], .agg (credL c), .agg (argL a), .agg (worldL ss sn bo)] h = some (.ret (.tup [.agg [.sl (nodesA (ns.map cloneN)) ns.length true, .int .u32 gen], .agg (ansA a.proc { stat := 0 })]), h) := by
  have cT : ∀ (h : H), (evAll TE (m + 29)).1 9 (.fn 30 [] []) [.agg [.sl (nodesA ns) ns.length t, .int .u32 gen]] h = some (.ret (.agg [.sl (nodesA (ns.map cloneN)) ns.length true, .int .u32 gen]), h) := fun h => twinL_c (m + 27) h ns t gen hok hlen hlen2
  have cD : ∀ (f : FuncId) (h : H), (evAll TE (m + 29)).1 f (.fn 32 [] []) [.int .u32 a.proc] h = some (.ret (.bool (doesS a.proc)), h) := fun f h => does_c (m + 27) f h a.proc
  have cK : ∀ (f : FuncId) (h : H), (evAll TE (m + 29)).1 f (.fn 7 [] []) [.agg [.sl (nodesA ns) ns.length t, .int .u32 gen]] h = some (.ret (.bool true), h) := hK
  have cN : ∀ (f : FuncId) (h : H), (evAll TE (m + 29)).1 f (.fn 26 [] []) [.agg [.int .u32 ss, .int .u32 sn]] h = some (.ret (.bool (nanoOk sn)), h) := fun f h => times_c (m + 28) f h ss sn
  have hone1 := cred_one hc
  have hone2 := args_one ha
  have hone3 := work_one (ns := ns) (gen := gen) (ss := ss) (sn := sn) (bo := bo) hc ha
  have htop3 := work_top (ns := ns) (gen := gen) (ss := ss) (sn := sn) (bo := bo) hc ha
  clear hK
  have hcl : cleanL [.agg [.sl (nodesA ns) ns.length t, .int .u32 gen], .agg (credL c), .agg (argL a), .agg (worldL ss sn bo)] = true := by
    have h1 := row_clean hc.1
    have h2 := row_clean ha.h
    have h3 := row_clean ha.h2
    have h4 := row_clean ha.data
    simp [cleanL, AV.clean, credL, argL, worldL, h1, h2, h3, h4]
  have hd : doesS a.proc = true := by rw [hp]; rfl
  have hf : findA (.int .u32 a.proc) procsM 0 = some none := by rw [hp]; rfl
  have hp0 : (a.proc != 0) = false := by rw [hp]; rfl
  refine call_clean (fn := Try.f9) rfl Try.func9 rfl rfl hcl rfl rfl (Nat.le_of_ble_eq_true rfl) ?_
  conv => whnf
  (refine runK_ret (ev_box rfl hone1) ?_)
  conv => whnf
  (refine runK_ret (ev_box rfl hone2) ?_)
  conv => whnf
  with_reducible refine ⟨_, _, cT _, ?_⟩
  conv => whnf
  (refine ⟨by kernel_rfl, ?_⟩)
  conv => whnf
  (refine runK_ret (ev_box rfl hone3) ?_)
  conv => whnf
  (refine listK_of (if_pos (Nat.le_trans (Nat.le_of_eq htop3) (Nat.zero_le _))) ?_)
  conv => whnf
  (refine ⟨by kernel_rfl, ?_⟩)
  conv => whnf
  (refine call_raw (fn := Try.f31) rfl Try.func31 rfl rfl (Nat.le_of_ble_eq_true rfl) ?_)
  conv => whnf
  (refine runK_ret (v := .fn0) (w := .none) (by show (match findA (.int .u32 a.proc) procsM 0 with | some (some (_, v)) => _ | some none => _ | none => _) = _; rw [hf]; rfl) ?_)
  conv => whnf
  (refine ⟨draw5 (by kernel_rfl) (by kernel_rfl) (and3 (by kernel_rfl) (by kernel_rfl) (and3 (all3 (by kernel_rfl) (by kernel_rfl) (apart_cells rfl rfl (same_int _ _))) (by kernel_rfl) (by kernel_rfl))) (by kernel_rfl) (by kernel_rfl) (by kernel_rfl), ?_⟩)
  conv => whnf
  with_reducible refine ⟨_, _, cD _ _, ?_⟩
  conv => whnf
  ((with_reducible cases z0 : doesS a.proc) <;> try exact Bool.noConfusion (Eq.trans (Eq.symm z0) hd))
  conv => whnf
  with_reducible refine ⟨_, _, cK _ _, ?_⟩
  conv => whnf
  with_reducible refine ⟨_, _, cN _ _, ?_⟩
  conv => whnf
  ((with_reducible cases z1 : nanoOk sn) <;> try exact Bool.noConfusion (Eq.trans (Eq.symm z1) hno))
  conv => whnf
  ((with_reducible cases z2 : a.proc != Int.ofNat 0) <;> try exact Bool.noConfusion (Eq.trans (Eq.symm z2) hp0))
  conv => whnf
  (refine ⟨by kernel_rfl, ?_⟩)
  conv => whnf
  rfl
set_option maxHeartbeats 8000000 in
theorem look_lost (m : Nat) (from_ : FuncId) (h : H) (ns : List NodeS) (t : Bool) (gen : Int) (c : CredS) (hc : c.ok) (a : ArgsS) (ha : a.ok) (ss sn : Int) (bo : Nat → Int) (hok : ∀ x ∈ ns, x.fit) (hlen : ns.length ≤ 1025) (hlen2 : ns ≠ []) (hK : ∀ (f : FuncId) (h : H), evCall TE (m + 29) f (.fn 7 [] []) [.agg [.sl (nodesA ns) ns.length t, .int .u32 gen]] h = some (.ret (.bool true), h)) (hd : doesS a.proc = true) (hp0 : (a.proc != 0) = true) (hno : nanoOk sn = true) (s : Int) (hs : (s == 0) = false) (hF : ∀ (f : FuncId) (h : H), evCall TE (m + 29) f (.fn 10 [] []) [.agg [.sl (nodesA ns) ns.length t, .int .u32 gen], a.h] h = some (.ret (.tup [.int .i64 0, .int .u32 s]), h)) : evCall TE (m + 30) from_ (.fn 9 [] []) [.agg [.sl (nodesA ns) ns.length t, .int .u32 gen], .agg (credL c), .agg (argL a), .agg (worldL ss sn bo)] h = some (.ret (.tup [.agg [.sl (nodesA (ns.map cloneN)) ns.length true, .int .u32 gen], .agg (ansA a.proc { stat := s })]), h) := by
  have cT : ∀ (h : H), (evAll TE (m + 29)).1 9 (.fn 30 [] []) [.agg [.sl (nodesA ns) ns.length t, .int .u32 gen]] h = some (.ret (.agg [.sl (nodesA (ns.map cloneN)) ns.length true, .int .u32 gen]), h) := fun h => twinL_c (m + 27) h ns t gen hok hlen hlen2
  have cD : ∀ (f : FuncId) (h : H), (evAll TE (m + 29)).1 f (.fn 32 [] []) [.int .u32 a.proc] h = some (.ret (.bool (doesS a.proc)), h) := fun f h => does_c (m + 27) f h a.proc
  have cK : ∀ (f : FuncId) (h : H), (evAll TE (m + 29)).1 f (.fn 7 [] []) [.agg [.sl (nodesA ns) ns.length t, .int .u32 gen]] h = some (.ret (.bool true), h) := hK
  have cN : ∀ (f : FuncId) (h : H), (evAll TE (m + 29)).1 f (.fn 26 [] []) [.agg [.int .u32 ss, .int .u32 sn]] h = some (.ret (.bool (nanoOk sn)), h) := fun f h => times_c (m + 28) f h ss sn
  have hone1 := cred_one hc
  have hone2 := args_one ha
  have hone3 := work_one (ns := ns) (gen := gen) (ss := ss) (sn := sn) (bo := bo) hc ha
  have htop3 := work_top (ns := ns) (gen := gen) (ss := ss) (sn := sn) (bo := bo) hc ha
  clear hK
  have hcl : cleanL [.agg [.sl (nodesA ns) ns.length t, .int .u32 gen], .agg (credL c), .agg (argL a), .agg (worldL ss sn bo)] = true := by
    have h1 := row_clean hc.1
    have h2 := row_clean ha.h
    have h3 := row_clean ha.h2
    have h4 := row_clean ha.data
    simp [cleanL, AV.clean, credL, argL, worldL, h1, h2, h3, h4]
  have cF : ∀ (f : FuncId) (h : H), (evAll TE (m + 29)).1 f (.fn 10 [] []) [.agg [.sl (nodesA ns) ns.length t, .int .u32 gen], a.h] h = some (.ret (.tup [.int .i64 0, .int .u32 s]), h) := hF
  rcases procs_shape a.proc with hf | ⟨i, g, hf⟩
  · exfalso
    unfold doesS at hd
    simp only [Bool.or_eq_true, beq_iff_eq] at hd
    rcases hd with hd | hd | hd | hd | hd | hd | hd | hd | hd | hd <;> rw [hd] at hf hp0
    · simp at hp0
    all_goals exact absurd hf (by show ¬ (some (some _) = some none); simp)
  have hah := ha.h
  clear hF
  obtain ⟨p, hv, hl, nm, h2, h2l, nm2, st, hasG, gs, gn, bits, off, cnt, mx, stb, dat, datl, tg, how, kd, vf, ck⟩ := a
  dsimp only at hah cD cF hf hd hp0 ⊢
  rcases hah with ⟨rfl, rfl⟩ | ⟨tt, rfl⟩
  · refine call_clean (fn := Try.f9) rfl Try.func9 rfl rfl hcl rfl rfl (Nat.le_of_ble_eq_true rfl) ?_
    conv => whnf
    (refine runK_ret (ev_box rfl hone1) ?_)
    conv => whnf
    (refine runK_ret (ev_box rfl hone2) ?_)
    conv => whnf
    with_reducible refine ⟨_, _, cT _, ?_⟩
    conv => whnf
    (refine ⟨by kernel_rfl, ?_⟩)
    conv => whnf
    (refine runK_ret (ev_box rfl hone3) ?_)
    conv => whnf
    (refine listK_of (if_pos (Nat.le_trans (Nat.le_of_eq htop3) (Nat.zero_le _))) ?_)
    conv => whnf
    (refine ⟨by kernel_rfl, ?_⟩)
    conv => whnf
    (refine call_raw (fn := Try.f31) rfl Try.func31 rfl rfl (Nat.le_of_ble_eq_true rfl) ?_)
    conv => whnf
    (refine runK_ret (v := .fn g [] []) (w := .none) (by show (match findA (.int .u32 p) procsM 0 with | some (some (_, v)) => _ | some none => _ | none => _) = _; rw [hf]; rfl) ?_)
    conv => whnf
    (refine ⟨draw5 (by kernel_rfl) (by kernel_rfl) (and3 (by kernel_rfl) (by kernel_rfl) (and3 (all3 (by kernel_rfl) (by kernel_rfl) (apart_cells rfl rfl (same_int _ _))) (by kernel_rfl) (by kernel_rfl))) (by kernel_rfl) (by kernel_rfl) (by kernel_rfl), ?_⟩)
    conv => whnf
    with_reducible refine ⟨_, _, cD _ _, ?_⟩
    conv => whnf
    ((with_reducible cases z0 : doesS p) <;> try exact Bool.noConfusion (Eq.trans (Eq.symm z0) hd))
    conv => whnf
    with_reducible refine ⟨_, _, cK _ _, ?_⟩
    conv => whnf
    with_reducible refine ⟨_, _, cN _ _, ?_⟩
    conv => whnf
    ((with_reducible cases z1 : nanoOk sn) <;> try exact Bool.noConfusion (Eq.trans (Eq.symm z1) hno))
    conv => whnf
    ((with_reducible cases z2 : p != Int.ofNat 0) <;> try exact Bool.noConfusion (Eq.trans (Eq.symm z2) hp0))
    conv => whnf
    with_reducible refine ⟨_, _, cF _ _, ?_⟩
    conv => whnf
    ((with_reducible cases z3 : s == Int.ofNat 0) <;> try exact Bool.noConfusion (Eq.trans (Eq.symm z3) hs))
    conv => whnf
    (refine ⟨by kernel_rfl, ?_⟩)
    conv => whnf
    rfl
  · refine call_clean (fn := Try.f9) rfl Try.func9 rfl rfl hcl rfl rfl (Nat.le_of_ble_eq_true rfl) ?_
    conv => whnf
    (refine runK_ret (ev_box rfl hone1) ?_)
    conv => whnf
    (refine runK_ret (ev_box rfl hone2) ?_)
    conv => whnf
    with_reducible refine ⟨_, _, cT _, ?_⟩
    conv => whnf
    (refine ⟨by kernel_rfl, ?_⟩)
    conv => whnf
    (refine runK_ret (ev_box rfl hone3) ?_)
    conv => whnf
    (refine listK_of (if_pos (Nat.le_trans (Nat.le_of_eq htop3) (Nat.zero_le _))) ?_)
    conv => whnf
    (refine ⟨by kernel_rfl, ?_⟩)
    conv => whnf
    (refine call_raw (fn := Try.f31) rfl Try.func31 rfl rfl (Nat.le_of_ble_eq_true rfl) ?_)
    conv => whnf
    (refine runK_ret (v := .fn g [] []) (w := .none) (by show (match findA (.int .u32 p) procsM 0 with | some (some (_, v)) => _ | some none => _ | none => _) = _; rw [hf]; rfl) ?_)
    conv => whnf
    (refine ⟨draw5 (by kernel_rfl) (by kernel_rfl) (and3 (by kernel_rfl) (by kernel_rfl) (and3 (all3 (by kernel_rfl) (by kernel_rfl) (apart_cells rfl rfl (same_int _ _))) (by kernel_rfl) (by kernel_rfl))) (by kernel_rfl) (by kernel_rfl) (by kernel_rfl), ?_⟩)
    conv => whnf
    with_reducible refine ⟨_, _, cD _ _, ?_⟩
    conv => whnf
    ((with_reducible cases z0 : doesS p) <;> try exact Bool.noConfusion (Eq.trans (Eq.symm z0) hd))
    conv => whnf
    with_reducible refine ⟨_, _, cK _ _, ?_⟩
    conv => whnf
    with_reducible refine ⟨_, _, cN _ _, ?_⟩
    conv => whnf
    ((with_reducible cases z1 : nanoOk sn) <;> try exact Bool.noConfusion (Eq.trans (Eq.symm z1) hno))
    conv => whnf
    ((with_reducible cases z2 : p != Int.ofNat 0) <;> try exact Bool.noConfusion (Eq.trans (Eq.symm z2) hp0))
    conv => whnf
    with_reducible refine ⟨_, _, cF _ _, ?_⟩
    conv => whnf
    ((with_reducible cases z3 : s == Int.ofNat 0) <;> try exact Bool.noConfusion (Eq.trans (Eq.symm z3) hs))
    conv => whnf
    (refine ⟨by kernel_rfl, ?_⟩)
    conv => whnf
    rfl
end Go.Proofs.Ytnkeijebkpjdgaa.Ab
/- Over the engine: what a tree that may be has, in plain words. -/
namespace Go.Proofs.Ytnkeijebkpjdgaa.Ab
open Go Go.RowKit

theorem anyBad_of {ns : List NodeS} {x : NodeS} (hx : x ∈ ns) (h : onlyS x = false) : anyBad ns = true := by
  unfold anyBad
  exact List.any_eq_true.2 ⟨x, hx, by rw [h]; rfl⟩
theorem checkS_has {ns : List NodeS} {tg : Int} (h : checkS ns tg = true) : preBad ns = false ∧ anyBad ns = false ∧ ∃ c, pass1 ns tg ns 0 [] (cnt0 ns.length) = some c ∧ pass2 ns c ns 0 = true := by
  unfold checkS at h
  rw [Bool.and_eq_true, Bool.and_eq_true, Bool.not_eq_true', Bool.not_eq_true'] at h
  refine ⟨h.1, h.2.1, ?_⟩
  cases hp : pass1 ns tg ns 0 [] (cnt0 ns.length) with
  | none => rw [hp] at h; simp at h
  | some c =>
    rw [hp] at h
    exact ⟨c, rfl, h.2.2⟩
/-- A node that is bad whatever was counted. -/
theorem pass1_bad {ns : List NodeS} {tg : Int} : ∀ (l : List NodeS) (i : Int) (g : List Int) (c : Cnt), (∃ x, x ∈ l ∧ (x.kind != 0) = true ∧ ∀ g, nodeBad ns tg g x = true) → pass1 ns tg l i g c = none
  | [], _, _, _, ⟨x, hx, _⟩ => by cases hx
  | y :: r, i, g, c, ⟨x, hx, hk, hb⟩ => by
    rw [pass1]
    rcases List.mem_cons.1 hx with rfl | hx
    · rw [if_pos hk, if_pos (hb g)]
    · split
      · split
        · rfl
        · exact pass1_bad r _ _ _ ⟨x, hx, hk, hb⟩
      · exact pass1_bad r _ _ _ ⟨x, hx, hk, hb⟩
/-- A node that is bad by what was counted. -/
theorem pass2_bad {ns : List NodeS} {c : Cnt} : ∀ (l : List NodeS) (i : Int) (k : Nat) (x : NodeS), l[k]? = some x → (x.kind != 0) = true → nodeBad2 ns c (i + k) x = true → pass2 ns c l i = false
  | [], _, k, x, h, _, _ => by simp at h
  | y :: r, i, 0, x, h, hk, hb => by
    simp at h
    subst h
    rw [pass2, if_pos hk, if_pos (by simpa using hb)]
  | y :: r, i, k + 1, x, h, hk, hb => by
    have ih := pass2_bad r (i + 1) k x (by simpa using h) hk (by rw [show i + 1 + (k : Int) = i + ((k + 1 : Nat) : Int) by omega]; exact hb)
    rw [pass2]
    split
    · split
      · rfl
      · exact ih
    · exact ih
theorem pass2_good {ns : List NodeS} {c : Cnt} : ∀ (l : List NodeS) (i : Int) (k : Nat) (x : NodeS), pass2 ns c l i = true → l[k]? = some x → (x.kind != 0) = true → nodeBad2 ns c (i + k) x = false := by
  intro l i k x h hx hk
  cases hb : nodeBad2 ns c (i + k) x with
  | false => rfl
  | true => rw [pass2_bad l i k x hx hk hb] at h; cases h
end Go.Proofs.Ytnkeijebkpjdgaa.Ab
/- Over the engine: a node that is turned, but for its kind. -/
namespace Go.Proofs.Ytnkeijebkpjdgaa.Ab
open Go Go.RowKit

section
variable {ns : List NodeS} {n : Nat} {x x' : NodeS} (hx : ns[n]? = some x) (hk : x'.kind = x.kind)
include hx hk
theorem kindS_set (d : Int) : kindS (ns.set n x') d = kindS ns d := by
  obtain ⟨h1, _⟩ := List.getElem?_eq_some_iff.1 hx
  unfold kindS
  by_cases hd : n = d.toNat
  · subst hd
    rw [List.getElem?_set_self h1, hx]
    exact hk
  · rw [List.getElem?_set_ne hd]
theorem thereS_set (d : Int) : thereS (ns.set n x') d = thereS ns d := by
  unfold thereS
  rw [kindS_set hx hk, List.length_set]
theorem dirS_set (d : Int) : dirS (ns.set n x') d = dirS ns d := by
  unfold dirS
  rw [thereS_set hx hk, kindS_set hx hk]
theorem entBad_set (next : Int) (prev : List EntryS) (la : Int) (e : EntryS) : entBad (ns.set n x') next prev la e = entBad ns next prev la e := by
  unfold entBad
  rw [thereS_set hx hk]
theorem entsBad_set (next : Int) : ∀ (l prev : List EntryS) (la : Int), entsBad (ns.set n x') next prev la l = entsBad ns next prev la l
  | [], _, _ => rfl
  | e :: r, prev, la => by rw [entsBad, entsBad, entBad_set hx hk, entsBad_set next r]
theorem entriesS_set (d : NodeS) : entriesS (ns.set n x') d = entriesS ns d := by
  unfold entriesS
  rw [entsBad_set hx hk]
theorem stepE_set (i : Int) (c : Cnt) (e : EntryS) : stepE (ns.set n x') i c e = stepE ns i c e := by
  unfold stepE
  rw [dirS_set hx hk]
theorem cntE_set (i : Int) : ∀ (l : List EntryS) (c : Cnt), cntE (ns.set n x') i c l = cntE ns i c l
  | [], _ => rfl
  | e :: r, c => by rw [cntE, cntE, stepE_set hx hk, cntE_set i r]
theorem nodeBad_set (tg : Int) (g : List Int) (y : NodeS) : nodeBad (ns.set n x') tg g y = nodeBad ns tg g y := by
  unfold nodeBad
  rw [entriesS_set hx hk]
end
/-- Nodes that the first pass takes for the same. -/
structure LikeP (x y : NodeS) : Prop where
  kind : x.kind = y.kind
  gen : x.gen = y.gen
  mode : x.mode = y.mode
  rn : x.rn = y.rn
  wn : x.wn = y.wn
  tn : x.tn = y.tn
  ents : x.ents = y.ents
  next : x.next = y.next
theorem pass1_ns {ns : List NodeS} {n : Nat} {x x' : NodeS} {tg : Int} (hx : ns[n]? = some x) (hk : x'.kind = x.kind) : ∀ (l : List NodeS) (i : Int) (g : List Int) (c : Cnt), pass1 (ns.set n x') tg l i g c = pass1 ns tg l i g c
  | [], _, _, _ => rfl
  | y :: r, i, g, c => by
    rw [pass1, pass1, nodeBad_set hx hk, cntE_set hx hk, pass1_ns hx hk r, pass1_ns hx hk r]
end Go.Proofs.Ytnkeijebkpjdgaa.Ab
/- Over the engine: a clone of a tree is one that may be as the tree is. -/
namespace Go.Proofs.Ytnkeijebkpjdgaa.Ab
open Go Go.RowKit

theorem kindS_clone (ns : List NodeS) (d : Int) : kindS (ns.map cloneN) d = kindS ns d := by
  unfold kindS
  rw [List.getElem?_map]
  cases ns[d.toNat]? <;> rfl
theorem parentS_clone (ns : List NodeS) (d : Int) : parentS (ns.map cloneN) d = parentS ns d := by
  unfold parentS
  rw [List.getElem?_map]
  cases ns[d.toNat]? <;> rfl
theorem thereS_clone (ns : List NodeS) (d : Int) : thereS (ns.map cloneN) d = thereS ns d := by
  unfold thereS
  rw [kindS_clone, List.length_map]
theorem dirS_clone (ns : List NodeS) (d : Int) : dirS (ns.map cloneN) d = dirS ns d := by
  unfold dirS
  rw [thereS_clone, kindS_clone]
theorem entBad_clone (ns : List NodeS) (next : Int) (prev : List EntryS) (la : Int) (e : EntryS) : entBad (ns.map cloneN) next prev la e = entBad ns next prev la e := by
  unfold entBad
  rw [thereS_clone]
theorem entsBad_clone (ns : List NodeS) (next : Int) : ∀ (l prev : List EntryS) (la : Int), entsBad (ns.map cloneN) next prev la l = entsBad ns next prev la l
  | [], _, _ => rfl
  | e :: r, prev, la => by rw [entsBad, entsBad, entBad_clone, entsBad_clone ns next r]
theorem entriesS_clone (ns : List NodeS) (d : NodeS) : entriesS (ns.map cloneN) d = entriesS ns d := by
  unfold entriesS
  rw [entsBad_clone]
theorem cntE_clone (ns : List NodeS) (i : Int) : ∀ (l : List EntryS) (c : Cnt), cntE (ns.map cloneN) i c l = cntE ns i c l
  | [], _ => rfl
  | e :: r, c => by
    rw [cntE, cntE, cntE_clone ns i r]
    congr 1
    unfold stepE
    rw [dirS_clone]
theorem withinS_clone (ns : List NodeS) (top : Int) : ∀ (k : Nat) (d : Int), withinS (ns.map cloneN) top k d = withinS ns top k d
  | 0, _ => rfl
  | k + 1, d => by rw [withinS, withinS, dirS_clone, parentS_clone, withinS_clone ns top k]
theorem nodeBad_clone (ns : List NodeS) (tg : Int) (g : List Int) (x : NodeS) : nodeBad (ns.map cloneN) tg g (cloneN x) = nodeBad ns tg g x := by
  unfold nodeBad
  rw [entriesS_clone]
  rfl
theorem pass1_clone (ns : List NodeS) (tg : Int) : ∀ (l : List NodeS) (i : Int) (g : List Int) (c : Cnt), pass1 (ns.map cloneN) tg (l.map cloneN) i g c = pass1 ns tg l i g c
  | [], _, _, _ => rfl
  | x :: r, i, g, c => by
    rw [List.map_cons, pass1, pass1, nodeBad_clone, cntE_clone, pass1_clone ns tg r, pass1_clone ns tg r]
    rfl
theorem nodeBad2_clone (ns : List NodeS) (c : Cnt) (i : Int) (x : NodeS) : nodeBad2 (ns.map cloneN) c i (cloneN x) = nodeBad2 ns c i x := by
  unfold nodeBad2
  rw [withinS_clone, List.length_map]
  rfl
theorem pass2_clone (ns : List NodeS) (c : Cnt) : ∀ (l : List NodeS) (i : Int), pass2 (ns.map cloneN) c (l.map cloneN) i = pass2 ns c l i
  | [], _ => rfl
  | x :: r, i => by
    rw [List.map_cons, pass2, pass2, nodeBad2_clone, pass2_clone ns c r]
    rfl
theorem checkS_clone (ns : List NodeS) (tg : Int) : checkS (ns.map cloneN) tg = checkS ns tg := by
  unfold checkS preBad anyBad
  rw [List.length_map, kindS_clone, dirS_clone, parentS_clone, thereS_clone, pass1_clone, List.any_map]
  simp only [pass2_clone]
  rfl
end Go.Proofs.Ytnkeijebkpjdgaa.Ab
/- Over the engine: what is told of a node ahead of a call and behind it. -/
namespace Go.Proofs.Ytnkeijebkpjdgaa.Ab
open Go Go.RowKit

set_option maxRecDepth 100000
def weakA (x y : NodeS) (n : Int) : List AV := [.bool true, .int .u64 (IntKind.wrap .u64 (sizeS x)), .int .u32 x.ws, .int .u32 x.wn, .int .u32 x.ts, .int .u32 x.tn, .bool true] ++ attrsS y n
theorem weak_c (m : Nat) (from_ : FuncId) (h : H) (ns l : List NodeS) (t1 t2 : Bool) (g1 g2 n : Int) (x y : NodeS) (h1 : thereS ns n = true) (hx : ns[n.toNat]? = some x) (hxo : x.ok) (h2 : thereS l n = true) (hy : l[n.toNat]? = some y) (hyo : y.ok) :
    evCall TE (m + 3) from_ (.fn 72 [] []) [.agg [.sl (nodesA ns) ns.length t1, .int .u32 g1], .agg [.sl (nodesA l) l.length t2, .int .u32 g2], .int .i64 n] h = some (.ret (.agg (weakA x y n)), h) := by
  have c1 : ∀ (f : FuncId) (h : H), (evAll TE (m + 2)).1 f (.fn 37 [] []) [.agg [.sl (nodesA ns) ns.length t1, .int .u32 g1], .int .i64 n] h = some (.ret (.tup [.agg (attrsS x n), .bool true]), h) := fun f h => attrs_some m f h _ ns (.inr ⟨t1, rfl⟩) g1 n x h1 hx hxo
  have c2 : ∀ (f : FuncId) (h : H), (evAll TE (m + 2)).1 f (.fn 37 [] []) [.agg [.sl (nodesA l) l.length t2, .int .u32 g2], .int .i64 n] h = some (.ret (.tup [.agg (attrsS y n), .bool true]), h) := fun f h => attrs_some m f h _ l (.inr ⟨t2, rfl⟩) g2 n y h2 hy hyo
  unfold weakA
  unfold attrsS at c1 c2 ⊢
  generalize IntKind.wrap .u64 (sizeS x) = sx at c1 ⊢
  generalize IntKind.wrap .u64 (sizeS y) = sy at c2 ⊢
  refine call_clean (fn := Try.f72) rfl Try.func72 rfl rfl rfl rfl rfl (Nat.le_of_ble_eq_true rfl) ?_
  conv => whnf
  with_reducible refine ⟨_, _, c1 _ _, ?_⟩
  conv => whnf
  (refine ⟨by kernel_rfl, ?_⟩)
  conv => whnf
  with_reducible refine ⟨_, _, c2 _ _, ?_⟩
  conv => whnf
  rfl
end Go.Proofs.Ytnkeijebkpjdgaa.Ab
