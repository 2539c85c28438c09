import Derived.Test.YtncplnobmiljfaaA05
namespace Go.Proofs.Ytncplnobmiljfaa.Hand
open Go.RowKit Go.Proofs.Ytncplnobmiljfaa.GB Go.Proofs.Ytncplnobmiljfaa.GC Go.Proofs.YtncplnobmiljfaaW.PrintWords Go.Proofs.YtncplnobmiljfaaW.PrintLast
set_option linter.unusedVariables false
set_option linter.unusedSimpArgs false

/-- Numbers as bytes, one behind the other. -/
def numsL : List Int → List Int
  | [] => []
  | n :: ns => beL n 4 ++ numsL ns
theorem numsL_append (a b : List Int) : numsL (a ++ b) = numsL a ++ numsL b := by
  induction a with
  | nil => rfl
  | cons x a ih => simp only [List.cons_append, numsL, ih, List.append_assoc]
theorem numsL_length (a : List Int) : (numsL a).length = 4 * a.length := by
  induction a with
  | nil => rfl
  | cons x a ih => simp only [numsL, List.length_append, List.length_cons, ih, beL_length]; omega

theorem cput_l0 (ns : List Int) (hn : ns.length ≤ 1000000) : ∀ (m k i : Nat) (acc : List Int), m = ns.length - i → i ≤ ns.length → m < k → acc.length + 4 * m < 140737488355328 → creds_put.l0 k acc ns (ns.length : Int) (i : Int) = some (acc ++ numsL (ns.drop i)) := by
  intro m
  induction m with
  | zero =>
    intro k i acc h1 h2 h3 h4
    obtain ⟨k, rfl⟩ : ∃ k', k = k' + 1 := ⟨k - 1, by omega⟩
    obtain rfl : i = ns.length := by omega
    rw [creds_put.l0, if_neg (by omega), List.drop_length]
    simp [numsL]
  | succ m ih =>
    intro k i acc h1 h2 h3 h4
    obtain ⟨k, rfl⟩ : ∃ k', k = k' + 1 := ⟨k - 1, by omega⟩
    have hi : i < ns.length := by omega
    rw [creds_put.l0, if_pos (by omega), if_pos (by omega), if_pos (by omega)]
    rw [show words_Put.f (rd ns (i : Int)) = some (beL (rd ns (i : Int)) 4) from rfl, Option.bind_some, rd_nat ns i hi]
    rw [if_pos (by rw [beL_length]; omega), wrap_in (by omega) (by omega)]
    rw [show ((i : Int) + 1) = ((i + 1 : Nat) : Int) by omega]
    rw [ih k (i + 1) _ (by omega) (by omega) (by omega) (by rw [List.length_append, beL_length]; omega)]
    rw [List.drop_eq_getElem_cons hi, numsL, List.append_assoc]
theorem cput_f (k : Nat) (acc ns : List Int) (hn : ns.length ≤ 1000000) (hk : ns.length < k) (h : acc.length + 4 * ns.length < 140737488355328) : creds_put.f k acc ns = some (acc ++ numsL ns) := by
  unfold creds_put.f
  have := cput_l0 ns hn ns.length k 0 acc (by omega) (by omega) hk h
  simpa using this

/-- Who calls, as bytes. -/
def credB (s : Int) (m : ByteArray) (u g : Int) (gs : List Int) : List Int := beL s 4 ++ (putL (bytesOf m) ++ (beL u 4 ++ (beL g 4 ++ (beL gs.length 4 ++ numsL gs))))
theorem padI_small (n : Nat) : (padI n).toNat ≤ 3 := by have := padI_range n; omega
theorem credB_length (s : Int) (m : ByteArray) (u g : Int) (gs : List Int) : (credB s m u g gs).length = 16 + (putL (bytesOf m)).length + 4 * gs.length := by
  unfold credB; simp only [List.length_append, beL_length, numsL_length]; omega
theorem cPut_ok (k : Nat) (s : Int) (m : ByteArray) (u g : Int) (gs : List Int) (hm : m.size ≤ 255) (hg : gs.length ≤ 16) (hk : 20 < k) : creds_Put.f (k + 1) s m u g gs = some (credB s m u g gs, 0) := by
  have hpl := putL_length (bytesOf m)
  have hps := padI_small (bytesOf m).length
  have hbm := bytesOf_length m
  unfold creds_Put.f
  rw [if_neg (by omega), creds_Put.j0, decide_eq_false (by omega), if_neg (by simp)]
  rw [cput_f k [] [s] (by simp) (by simp; omega) (by simp), Option.bind_some, sput_f m (by omega), Option.bind_some]
  rw [if_pos (by simp only [List.length_append, List.length_nil, numsL_length, List.length_cons]; omega)]
  rw [show ((gs.length : Int) % 4294967296) = (gs.length : Int) by omega]
  rw [cput_f k _ [u, g, (gs.length : Int)] (by simp) (by simp; omega) (by simp only [List.length_append, List.length_nil, numsL_length, List.length_cons]; omega), Option.bind_some]
  rw [cput_f k _ gs (by omega) (by omega) (by simp only [List.length_append, List.length_nil, numsL_length, List.length_cons]; omega), Option.bind_some]
  simp only [numsL, credB, List.nil_append, List.append_nil, List.append_assoc]
theorem cPut_no (k : Nat) (s : Int) (m : ByteArray) (u g : Int) (gs : List Int) (h : 255 < m.size ∨ 16 < gs.length) : creds_Put.f (k + 1) s m u g gs = some ([], 1) := by
  unfold creds_Put.f
  by_cases hm : (m.size : Int) > 255
  · rw [if_pos hm, creds_Put.j0, if_pos rfl]
  · rw [if_neg hm, creds_Put.j0, decide_eq_true (by omega), if_pos rfl]

/-! ### What is read is what stood there -/
theorem numG_inv {l l' : List Int} {e0 x : Int} (hb : byteOk l = true) (h : numG l e0 = (x, l', 0)) : e0 = 0 ∧ l = beL x 4 ++ l' := by
  unfold numG at h
  by_cases he : e0 = 0
  · rw [if_pos he] at h
    by_cases hl : l.length < 4
    · rw [if_pos hl] at h; simp at h
    · rw [if_neg hl] at h
      simp only [Prod.mk.injEq] at h
      obtain ⟨rfl, rfl, _⟩ := h
      refine ⟨he, ?_⟩
      rw [be4_de _ (by rw [List.length_take]; omega) (byteOk_take hb 4), List.take_append_drop]
  · rw [if_neg he] at h
    simp only [Prod.mk.injEq] at h
    exact absurd h.2.2 he
theorem strG_inv {l l' : List Int} {e0 : Int} {m : ByteArray} (hb : byteOk l = true) (h : strG l e0 = (m, l', 0)) : e0 = 0 ∧ l = putL (bytesOf m) ++ l' ∧ m.size ≤ 255 := by
  unfold strG at h
  by_cases he : e0 = 0
  · rw [if_pos he] at h
    refine ⟨he, ?_⟩
    unfold strings_Get.f at h
    rcases get_again l 255 hb with ⟨e, hne, hg⟩ | ⟨xs, n, hg, hn, hx, hp, hbx, hlx⟩
    · rw [hg] at h
      simp only [Option.map_some, Prod.mk.injEq] at h
      exact absurd h.2.2 hne
    · rw [hg] at h
      simp only [Option.map_some, Prod.mk.injEq, Int.toNat_natCast] at h
      obtain ⟨rfl, rfl, _⟩ := h
      rw [bytesOf_str xs hbx, hp, List.take_append_drop, strOfNums_size]
      exact ⟨rfl, by omega⟩
  · rw [if_neg he] at h
    simp only [Prod.mk.injEq] at h
    exact absurd h.2.2 he
theorem grpG_inv : ∀ (k : Nat) (gs l gs' l' : List Int) (e : Int), byteOk l = true → grpG k gs l e = (gs', l', 0) → e = 0 ∧ ∃ ns, gs' = gs ++ ns ∧ ns.length = k ∧ l = numsL ns ++ l'
  | 0, gs, l, gs', l', e, hb, h => by
    simp only [grpG, Prod.mk.injEq] at h
    obtain ⟨rfl, rfl, he⟩ := h
    exact ⟨he, [], by simp, rfl, rfl⟩
  | k + 1, gs, l, gs', l', e, hb, h => by
    rw [grpG] at h
    by_cases he : e = 0
    · rw [if_pos he] at h
      obtain ⟨h1, ns, h2, h3, h4⟩ := grpG_inv k _ _ _ _ _ (numG_ok hb e) h
      have hx : numG l e = ((numG l e).1, (numG l e).2.1, 0) := by rw [← h1]
      obtain ⟨_, h5⟩ := numG_inv hb hx
      refine ⟨he, (numG l e).1 :: ns, by rw [h2]; simp, by simp [h3], ?_⟩
      rw [numsL, List.append_assoc, ← h4]; exact h5
    · rw [if_neg he] at h
      simp only [Prod.mk.injEq] at h
      exact absurd h.2.2 he
theorem limG_inv {k e : Int} (h : limG k e = 0) : e = 0 ∧ k ≤ 16 := by
  refine ⟨?_, limG_zero h⟩
  unfold limG at h
  by_cases he : e = 0
  · exact he
  · rw [if_neg he] at h; exact h
theorem endG_inv {l : List Int} {e : Int} (h : endG l e = 0) : e = 0 ∧ l = [] := by
  unfold endG at h
  by_cases he : e = 0
  · rw [if_pos he] at h
    refine ⟨he, ?_⟩
    by_cases hl : 0 < l.length
    · rw [if_pos hl] at h; omega
    · exact List.eq_nil_of_length_eq_zero (by omega)
  · rw [if_neg he] at h; exact absurd h he
/-- Who is got of any bytes is nobody, or is put as these. -/
theorem cred_again (l : List Int) (hb : byteOk l = true) :
    (∃ e : Int, e ≠ 0 ∧ credG l = ⟨0, ByteArray.empty, 0, 0, [], e⟩) ∨
    (∃ s m u g gs, credG l = ⟨s, m, u, g, gs, 0⟩ ∧ l = credB s m u g gs ∧ m.size ≤ 255 ∧ gs.length ≤ 16) := by
  obtain ⟨a, ha⟩ : ∃ a, numG l 0 = a := ⟨_, rfl⟩
  obtain ⟨s, hs⟩ : ∃ s, strG a.2.1 a.2.2 = s := ⟨_, rfl⟩
  obtain ⟨u, hu⟩ : ∃ u, numG s.2.1 s.2.2 = u := ⟨_, rfl⟩
  obtain ⟨g, hg⟩ : ∃ g, numG u.2.1 u.2.2 = g := ⟨_, rfl⟩
  obtain ⟨k, hk⟩ : ∃ k, numG g.2.1 g.2.2 = k := ⟨_, rfl⟩
  obtain ⟨r, hr⟩ : ∃ r, grpG k.1.toNat [] k.2.1 (limG k.1 k.2.2) = r := ⟨_, rfl⟩
  have hR : credG l = (if endG r.2.1 r.2.2 = 0 then (⟨a.1, s.1, u.1, g.1, r.1, 0⟩ : CredR) else ⟨0, ByteArray.empty, 0, 0, [], endG r.2.1 r.2.2⟩) := by
    unfold credG; subst ha; subst hs; subst hu; subst hg; subst hk; subst hr; rfl
  rw [hR]
  by_cases hz : endG r.2.1 r.2.2 = 0
  · rw [if_pos hz]
    have oka : byteOk a.2.1 = true := ha ▸ numG_ok hb 0
    have oks : byteOk s.2.1 = true := hs ▸ strG_ok oka _
    have oku : byteOk u.2.1 = true := hu ▸ numG_ok oks _
    have okg : byteOk g.2.1 = true := hg ▸ numG_ok oku _
    have okk : byteOk k.2.1 = true := hk ▸ numG_ok okg _
    have rk := hk ▸ numG_range okg g.2.2
    obtain ⟨h1, h2⟩ := endG_inv hz
    obtain ⟨h3, ns, h4, h5, h6⟩ := grpG_inv k.1.toNat [] k.2.1 r.1 r.2.1 _ okk (by rw [hr, ← h1])
    obtain ⟨h7, h8⟩ := limG_inv h3
    obtain ⟨h9, h10⟩ := numG_inv okg (x := k.1) (l' := k.2.1) (by rw [hk, ← h7])
    obtain ⟨h11, h12⟩ := numG_inv oku (x := g.1) (l' := g.2.1) (by rw [hg, ← h9])
    obtain ⟨h13, h14⟩ := numG_inv oks (x := u.1) (l' := u.2.1) (by rw [hu, ← h11])
    obtain ⟨h15, h16, h17⟩ := strG_inv oka (m := s.1) (l' := s.2.1) (by rw [hs, ← h13])
    obtain ⟨_, h18⟩ := numG_inv hb (x := a.1) (l' := a.2.1) (by rw [ha, ← h15])
    refine .inr ⟨a.1, s.1, u.1, g.1, r.1, rfl, ?_, h17, ?_⟩
    · rw [h2, List.append_nil] at h6
      rw [List.nil_append] at h4
      rw [h18, h16, h14, h12, h10, h6, h4]
      unfold credB
      rw [show ((ns.length : Nat) : Int) = k.1 by have := rk.1; omega]
    · rw [h4]; simp; omega
  · rw [if_neg hz]; exact .inl ⟨_, hz, rfl⟩
end Go.Proofs.Ytncplnobmiljfaa.Hand
