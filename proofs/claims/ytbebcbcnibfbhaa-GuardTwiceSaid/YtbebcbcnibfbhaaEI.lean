import Derived.Test.YtbebcbcnibfbhaaEH
/- The engine, ninth text: slices, conversions, arithmetic. -/
namespace Go.Proofs.Ytbebcbcnibfbhaa.Ab
open Go

section ops
variable {P : Program} {K : KS} {bs : List AB} {w : World}

theorem slice_cells {hp : Array Obj} {b o : Nat} {us : List Value} (h : ∀ (i : Nat) (u : Value), us[i]? = some u → cellH hp b (o + i) = some u ∧ u.oneCell' = true) (d n : Nat) :
    ∀ (i : Nat) (u : Value), ((us.drop d).take n)[i]? = some u → cellH hp b (o + d + i) = some u ∧ u.oneCell' = true := by
  intro i u hu
  rw [List.getElem?_take] at hu
  split at hu
  · rw [List.getElem?_drop] at hu
    rw [Nat.add_assoc]
    exact h _ _ hu
  · cases hu
theorem bound_mono {a : AV} {m m' n : Nat} (h : boundA a m = some n) (hm : m ≤ m') : boundA a m' = some n := by
  unfold boundA at h ⊢
  split at h
  · split at h
    · rename_i hc
      cases h
      rw [if_pos ⟨hc.1, by omega⟩]
    · cases h
  · cases h
theorem bounds_mono {len cap cap' : Nat} {lo hi mx : Option AV} {l h m : Nat} (hb : boundsA len cap lo hi mx = some (l, h, m)) (hc : cap ≤ cap') :
    boundsA len cap' lo hi mx = some (l, h, if mx.isNone = true then cap' else m) := by
  unfold boundsA at hb ⊢
  cases mx with
  | none =>
    simp only at hb ⊢
    cases hi with
    | none =>
      simp only [Option.isNone_none, if_true] at hb ⊢
      cases lo with
      | none => simp only [Option.some.injEq, Prod.mk.injEq] at hb ⊢; obtain ⟨rfl, rfl, rfl⟩ := hb; exact ⟨rfl, rfl, by simp⟩
      | some a =>
        simp only at hb ⊢
        cases hb1 : boundA a len with
        | none => simp [hb1] at hb
        | some l1 => simp only [hb1, Option.some.injEq, Prod.mk.injEq] at hb ⊢; obtain ⟨rfl, rfl, rfl⟩ := hb; exact ⟨rfl, rfl, by simp⟩
    | some b =>
      simp only at hb ⊢
      cases hb2 : boundA b cap with
      | none => simp [hb2] at hb
      | some h0 =>
        rw [bound_mono hb2 hc]
        simp only [hb2] at hb
        cases lo with
        | none => simp only [Option.some.injEq, Prod.mk.injEq, Option.isNone_none, if_true] at hb ⊢; obtain ⟨rfl, rfl, rfl⟩ := hb; exact ⟨rfl, rfl, by simp⟩
        | some a =>
          simp only at hb ⊢
          cases hb1 : boundA a h0 with
          | none => simp [hb1] at hb
          | some l1 => simp only [hb1, Option.some.injEq, Prod.mk.injEq, Option.isNone_none, if_true] at hb ⊢; obtain ⟨rfl, rfl, rfl⟩ := hb; exact ⟨rfl, rfl, by simp⟩
  | some c =>
    simp only at hb ⊢
    cases hb3 : boundA c cap with
    | none => simp [hb3] at hb
    | some m0 =>
      rw [bound_mono hb3 hc]
      simp only [hb3] at hb
      rw [hb]
      cases hi with
      | none => simp at hb
      | some b =>
        simp only at hb
        cases hb2 : boundA b m0 with
        | none => simp [hb2] at hb
        | some h0 =>
          simp only [hb2] at hb
          cases lo with
          | none => simp only [Option.some.injEq, Prod.mk.injEq] at hb; simp
          | some a =>
            simp only at hb
            cases hb1 : boundA a h0 with
            | none => simp [hb1] at hb
            | some l1 => simp

theorem tight_sound {mx : Option AV} {tight : Bool} {h len cap m' l : Nat} (ht : tightS mx tight h len = true) (hl : l ≤ h) (hcap : tight = true → cap = len) (hm : mx = none → m' = cap) (hv : ∀ v, mx = some v → ∃ k i, v = .int k i ∧ i.toNat = m') : m' - l = h - l := by
  unfold tightS at ht
  split at ht
  · obtain ⟨k, i, e1, e2⟩ := hv _ rfl
    cases e1
    simp at ht
    omega
  · cases ht
  · simp at ht
    have := hcap ht.1
    have := hm rfl
    omega
theorem slice_sound (hr : HR K bs w.heap) {nid : Nat} {t : TypeId} {x : AV} {lo hi mx : Option AV} {x' : Value} {lo' hi' mx' : Option Value} (hx : RepV K bs w.heap x x') (h1 : RepO K bs w.heap lo lo') (h2 : RepO K bs w.heap hi hi') (h3 : RepO K bs w.heap mx mx') {r : Out}
    (hm : (sliceA P t x lo hi mx).run bs = some r) : ValGood K bs w nid r ((Instr.sliceAt t x' lo' hi' mx').run P w) := by
  unfold sliceA at hm
  split at hm
  · rename_i s hu
    obtain ⟨t', rfl, ht⟩ := hx.inv_str
    split at hm
    · exact (fail_run hm).elim
    · split at hm
      · rename_i l h m hb
        have := ret_run hm; subst this
        have hmx : mx' = none := by cases mx' <;> first | rfl | (simp [RepO] at h3)
        subst hmx
        rw [← bytes_size ht] at hb
        obtain ⟨q1, q2, q3, q4, q5, q6, _⟩ := bounds_sound (P := P) (w := w) (isS := false) h1 h2 h3 hb
        have hrun : (Instr.sliceAt t (.string t') lo' hi' none).run P w = .ok (.string (t'.extract l h)) w := by
          simp [Instr.sliceAt, run_undA hu, Instr.slice, q1]
        rw [hrun]
        refine good_none hr (.clean ?_)
        have e : (t'.extract l h).data.toList = (s.take h).drop l := by
          subst ht
          rw [ByteArray.data_extract, Array.toList_extract]
          simp [List.extract, List.drop_take]
        rw [← e]
        exact .str _
      · exact (fail_run hm).elim
  · rename_i e hu
    split at hm
    · rename_i n hn
      have := hx.inv_sl0; subst this
      split at hm
      · rename_i y hb
        obtain ⟨l, h, m⟩ := y
        have := ret_run hm; subst this
        obtain ⟨q1, q2, q3, q4, q5, q6, _⟩ := bounds_sound (P := P) (w := w) (isS := true) h1 h2 h3 hb
        have hl0 : l = 0 ∧ h = 0 ∧ m = 0 := by
          have hh : h = 0 := by
            cases hi with
            | none => exact q6 rfl
            | some _ => have := q3 rfl; omega
          omega
        obtain ⟨rfl, rfl, rfl⟩ := hl0
        have hrun : (Instr.sliceAt t (.slice none 0 0) lo' hi' mx').run P w = .ok (.slice none 0 0) w := by
          simp [Instr.sliceAt, run_undA hu, Instr.slice, q1, run_szOf hn]
        rw [hrun]
        exact good_none hr (.clean .sl0)
      · exact (fail_run hm).elim
    · rename_i n cells len tight hn
      obtain ⟨b, o, sp, cap, us, rfl, g1, g2, g3, g4, g5, g6⟩ := hx.inv_sl
      split at hm
      · rename_i l h m hb
        split at hm
        · rename_i hlen
          have := ret_run hm; subst this
          obtain ⟨_, p2, p3, p4, p5, p6, p7⟩ := bounds_sound (P := P) (w := w) (isS := true) h1 h2 h3 hb
          obtain ⟨m', hm'⟩ : ∃ m', m' = if mx.isNone = true then cap else m := ⟨_, rfl⟩
          obtain ⟨q1, q2, q3, q4, q5, q6, q7⟩ := bounds_sound (P := P) (w := w) (isS := true) h1 h2 h3 (bounds_mono hb g1)
          rw [← hm'] at q1 q3 q4 q5 q7
          have hhl : h ≤ len := by
            cases hi with
            | none => have := p6 rfl; omega
            | some _ => have := p3 rfl; omega
          have hhm : h ≤ m' := by
            cases hi with
            | none =>
              cases mx with
              | none => have := q5 rfl; omega
              | some v =>
                exfalso
                unfold boundsA at hb
                simp only at hb
                split at hb
                · cases hb
                · simp at hb
            | some _ => exact q3 rfl
          have hrun : (Instr.sliceAt t (.slice (some ⟨b, o, sp⟩) len cap) lo' hi' mx').run P w = .ok (.slice (some (if m' = l then ⟨b, o, sp⟩ else (⟨b, o, sp⟩ : Addr).add (l * n))) (h - l) (m' - l)) w := by
            simp only [Instr.sliceAt, Sem.run_bind, run_undA hu, Result.andThen_ok, Instr.slice, q1, run_szOf hn, Sem.run_pure, Option.map_some]
            split <;> rfl
          rw [hrun]
          refine good_none hr (.clean ?_)
          have htt : tightS mx tight h len = true → m' - l = h - l := fun ht => tight_sound ht q2 g2 q5 q7
          by_cases hml : m' = l
          · rw [if_pos hml]
            have hh : h = l := by omega
            subst hh
            have hnil : (if h = 0 ∧ h = len ∧ cells.length = h * n then cells else ((cells.take (h * n)).drop (h * n))) = [] := by
              split
              · rename_i hc
                apply List.eq_nil_of_length_eq_zero
                rw [hc.2.2, hc.1]; simp
              · apply List.eq_nil_of_length_eq_zero
                simp
            rw [hnil]
            exact .sl (by omega) htt (.inl rfl) (us := []) (fun i u hu => by simp at hu) .nil (.inr (by omega))
          · rw [if_neg hml]
            obtain rfl : sp = none := by
              rcases g6 with g6 | g6
              · exact g6
              · omega
            rw [add_addr]
            split
            · rename_i hc
              obtain ⟨rfl, hc2, hc3⟩ := hc
              refine .sl (by omega) htt (sp := none) g3 (us := us) ?_ g5 (.inl rfl)
              simpa using g4
            · have hus := g5.len
              refine .sl (by omega) htt (g3.imp (fun e => by rw [e]; simp) id) (us := (us.drop (l * n)).take (h * n - l * n)) ?_ ?_ (.inl rfl)
              · exact slice_cells g4 (l * n) _
              · have := (g5.take (h * n)).drop (l * n)
                rw [List.drop_take] at this
                rw [List.drop_take]
                rw [List.drop_take] at this
                exact this
        · exact (fail_run hm).elim
      · exact (fail_run hm).elim
    · rename_i n b off len cap ver hn
      obtain ⟨x, o, cp, rfl, g1, g2, g3, g4, g5⟩ := hx.inv_rsl
      split at hm
      · rename_i l h m hb
        have hcg : cap.getD len ≤ cp := by
          cases cap with
          | none => exact g2
          | some c => rw [g3 c rfl]; exact Nat.le_refl _
        obtain ⟨_, p2, p3, p4, p5, p6, p7⟩ := bounds_sound (P := P) (w := w) (isS := true) h1 h2 h3 hb
        obtain ⟨m', hm'⟩ : ∃ m', m' = if mx.isNone = true then cp else m := ⟨_, rfl⟩
        obtain ⟨q1, q2, q3, q4, q5, q6, q7⟩ := bounds_sound (P := P) (w := w) (isS := true) h1 h2 h3 (bounds_mono hb hcg)
        rw [← hm'] at q1 q3 q4 q5 q7
        have hhm : h ≤ m' := by
          cases hi with
          | none =>
            have := q6 rfl
            cases mx with
            | none => have := q5 rfl; omega
            | some v =>
              exfalso
              unfold boundsA at hb
              simp only at hb
              split at hb
              · cases hb
              · simp at hb
          | some _ => exact q3 rfl
        have hrun : (Instr.sliceAt t (.slice (some ⟨x, o, none⟩) len cp) lo' hi' mx').run P w = .ok (.slice (some (if m' = l then ⟨x, o, none⟩ else ⟨x, o + l * n, none⟩)) (h - l) (m' - l)) w := by
          simp only [Instr.sliceAt, Sem.run_bind, run_undA hu, Result.andThen_ok, Instr.slice, q1, run_szOf hn, Sem.run_pure, add_addr, Option.map_some]
          split <;> rfl
        rw [hrun]
        have hcap : ∀ k, capS mx cap l m = some k → m' - l = k := by
          intro k hk
          unfold capS at hk
          split at hk
          · cases hk
            rw [hm']
            simp
          · cases hk
            rw [hm']
            simp [g3 _ rfl]
          · cases hk
        have fin : ∀ cap2, (∀ k, cap2 = some k → m' - l = k) → (∀ c i, bs[b]? = some (.cells c i) → ver = verOf c i → x = K.β b ∧ (cap2 = none → off + l * n + (m' - l) * i.sz ≤ K.κ b ∧ c.length ≤ off + l * n + (m' - l) * i.sz)) →
            ValGood K bs w nid (.rsl b (off + l * n) (h - l) cap2 ver, .none) (.ok (.slice (some (if m' = l then ⟨x, o, none⟩ else ⟨x, o + l * n, none⟩)) (h - l) (m' - l)) w) := by
          intro cap2 hc2 hval
          refine good_none hr ?_
          by_cases hml : m' = l
          · rw [if_pos hml]
            exact .rsl g1 (by omega) hc2 (.inl (by omega)) hval
          · rw [if_neg hml]
            refine .rsl g1 (by omega) hc2 ?_ hval
            rcases g4 with g4 | g4
            · left; omega
            · right; rw [g4]
        split at hm
        · rename_i c hcs
          have := ret_run hm; subst this
          exact fin _ (fun k hk => hcap k (hcs.trans hk)) fun c i hc hv => ⟨(g5 c i hc hv).1, fun e => by cases e⟩
        · rename_i hcs
          obtain ⟨c0, i0, hb0, hm⟩ := info_run hm
          split at hm
          · rename_i hsz
            have := ret_run hm; subst this
            refine fin _ (fun k hk => by cases hk) fun c i hc hv => ?_
            rw [hb0] at hc; cases hc
            obtain ⟨k1, k2⟩ := g5 c0 i0 hb0 hv
            have hcn : cap = none ∧ mx = none := by
              unfold capS at hcs
              split at hcs
              · cases hcs
              · cases hcs
              · exact ⟨rfl, rfl⟩
            obtain ⟨rfl, rfl⟩ := hcn
            obtain ⟨k3, k4⟩ := k2 rfl
            have hmc : m' = cp := q5 rfl
            subst hmc
            rw [← hsz]
            have hmul : l * i0.sz + (m' - l) * i0.sz = m' * i0.sz := by
              rw [← Nat.add_mul]
              congr 1
              omega
            exact ⟨k1, fun _ => by omega⟩
          · exact (fail_run hm).elim
      · exact (fail_run hm).elim
    · exact (fail_run hm).elim
  · rename_i n e hu
    split at hm
    · rename_i sz b off ver hn
      obtain ⟨x, rfl, g1, g2⟩ := hx.inv_ref
      split at hm
      · rename_i l h m hb
        have := ret_run hm; subst this
        obtain ⟨q1, q2, q3, q4, q5, q6, q7⟩ := bounds_sound (P := P) (w := w) (isS := false) h1 h2 h3 hb
        have hhm : h ≤ m := by
          cases hi with
          | none =>
            have := q6 rfl
            cases mx with
            | none => have := q5 rfl; omega
            | some v =>
              exfalso
              unfold boundsA at hb
              simp only at hb
              split at hb
              · cases hb
              · simp at hb
          | some _ => exact q3 rfl
        have hrun : (Instr.sliceAt t (.pointer (some ⟨x, off, none⟩)) lo' hi' mx').run P w = .ok (.slice (some (if m = l then ⟨x, off, none⟩ else ⟨x, off + l * sz, none⟩)) (h - l) (m - l)) w := by
          simp only [Instr.sliceAt, Instr.sureAddr, Sem.run_bind, run_undA hu, Result.andThen_ok, q1, run_szOf hn, Sem.run_pure, add_addr]
        rw [hrun]
        refine good_none hr ?_
        by_cases hml : m = l
        · rw [if_pos hml]
          exact .rsl g1 (by omega) (fun k hk => by cases hk; rfl) (.inl (by omega)) fun c i hc hv => ⟨g2 c i hc hv, fun e => by cases e⟩
        · rw [if_neg hml]
          exact .rsl g1 (by omega) (fun k hk => by cases hk; rfl) (.inr rfl) fun c i hc hv => ⟨g2 c i hc hv, fun e => by cases e⟩
      · exact (fail_run hm).elim
    · rename_i sz cells off hn
      obtain ⟨b, o, us, rfl, g3, g4, g5⟩ := hx.inv_vref
      split at hm
      · rename_i l h m hb
        split at hm
        · rename_i hlen
          have := ret_run hm; subst this
          obtain ⟨q1, q2, q3, q4, q5, q6, q7⟩ := bounds_sound (P := P) (w := w) (isS := false) h1 h2 h3 hb
          have hhm : h ≤ m := by
            cases hi with
            | none =>
              have := q6 rfl
              cases mx with
              | none => have := q5 rfl; omega
              | some v =>
                exfalso
                unfold boundsA at hb
                simp only at hb
                split at hb
                · cases hb
                · simp at hb
            | some _ => exact q3 rfl
          have hrun : (Instr.sliceAt t (.pointer (some ⟨b, o + off, none⟩)) lo' hi' mx').run P w = .ok (.slice (some (if m = l then ⟨b, o + off, none⟩ else ⟨b, o + off + l * sz, none⟩)) (h - l) (m - l)) w := by
            simp only [Instr.sliceAt, Instr.sureAddr, Sem.run_bind, run_undA hu, Result.andThen_ok, q1, run_szOf hn, Sem.run_pure, add_addr]
          rw [hrun]
          refine good_none hr (.clean ?_)
          have ht : decide (m = h) = true → m - l = h - l := by intro e; simp at e; omega
          by_cases hml : m = l
          · rw [if_pos hml]
            have hh : h - l = 0 := by omega
            rw [hh]
            simp only [Nat.zero_mul, List.take_zero]
            rw [hh] at ht
            exact .sl (by omega) ht (.inl rfl) (us := []) (fun i u hu => by simp at hu) .nil (.inl rfl)
          · rw [if_neg hml]
            refine .sl (by omega) ht (g3.imp (fun e => by rw [e]; simp) id) (us := (us.drop (off + l * sz)).take ((h - l) * sz)) ?_ ((g5.drop _).take _) (.inl rfl)
            have := slice_cells g4 (off + l * sz) ((h - l) * sz)
            intro i u hu
            have := this i u hu
            rwa [← Nat.add_assoc] at this
        · exact (fail_run hm).elim
      · exact (fail_run hm).elim
    · exact (fail_run hm).elim
  · exact (fail_run hm).elim
end ops
end Go.Proofs.Ytbebcbcnibfbhaa.Ab
