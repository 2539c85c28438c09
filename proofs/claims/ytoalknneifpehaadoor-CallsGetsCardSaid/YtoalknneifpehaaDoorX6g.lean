import Derived.Test.YtoalknneifpehaaDoorGC1
import Derived.Test.YtoalknneifpehaaDoorQ03
import Derived.Test.YtoalknneifpehaaDoorGQ1
import Derived.Deep.RegionHeld3
import Derived.Test.YtoalknneifpehaaDoorC1
import Derived.Test.YtoalknneifpehaaDoorRX
import Derived.Deep.MidRow
import Derived.ScopeJumps
import Derived.Test.YtoalknneifpehaaDoorNB
namespace Go.Proofs.YtoalknneifpehaaDoor.Hand
open Go.RowKit Go.Proofs.YtoalknneifpehaaDoor.GB Go.Proofs.YtoalknneifpehaaDoor.GC Go.Proofs.YtoalknneifpehaaDoorW.PrintWords Go.Proofs.YtoalknneifpehaaDoorW.PrintLast Go.Proofs.YtoalknneifpehaaDoor.GQ Go.Proofs.YtoalknneifpehaaDoorW.PrintMore
set_option linter.unusedVariables false
set_option linter.unusedSimpArgs false

/-- Numbers as bytes, one behind the other. -/
def numsL : List Int → List Int
  | [] => []
  | n :: ns => beL n 4 ++ numsL ns
theorem numsL_append (a b : List Int) : numsL (a ++ b) = numsL a ++ numsL b := by
  induction a with
  | nil => rfl
  | cons x a ih => simp only [List.cons_append, numsL, ih, List.append_assoc]
theorem numsL_length (a : List Int) : (numsL a).length = 4 * a.length := by
  induction a with
  | nil => rfl
  | cons x a ih => simp only [numsL, List.length_append, List.length_cons, ih, beL_length]; omega

theorem cput_l0 (ns : List Int) (hn : ns.length ≤ 1000000) : ∀ (m k i : Nat) (acc : List Int), m = ns.length - i → i ≤ ns.length → m < k → acc.length + 4 * m < 140737488355328 → creds_put.l0 k acc ns (ns.length : Int) (i : Int) = some (acc ++ numsL (ns.drop i)) := by
  intro m
  induction m with
  | zero =>
    intro k i acc h1 h2 h3 h4
    obtain ⟨k, rfl⟩ : ∃ k', k = k' + 1 := ⟨k - 1, by omega⟩
    obtain rfl : i = ns.length := by omega
    rw [creds_put.l0, if_neg (by omega), List.drop_length]
    simp [numsL]
  | succ m ih =>
    intro k i acc h1 h2 h3 h4
    obtain ⟨k, rfl⟩ : ∃ k', k = k' + 1 := ⟨k - 1, by omega⟩
    have hi : i < ns.length := by omega
    rw [creds_put.l0, if_pos (by omega), if_pos (by omega), if_pos (by omega)]
    rw [show words_Put.f (rd ns (i : Int)) = some (beL (rd ns (i : Int)) 4) from rfl, Option.bind_some, rd_nat ns i hi]
    rw [if_pos (by rw [beL_length]; omega), wrap_in (by omega) (by omega)]
    rw [show ((i : Int) + 1) = ((i + 1 : Nat) : Int) by omega]
    rw [ih k (i + 1) _ (by omega) (by omega) (by omega) (by rw [List.length_append, beL_length]; omega)]
    rw [List.drop_eq_getElem_cons hi, numsL, List.append_assoc]
theorem cput_f (k : Nat) (acc ns : List Int) (hn : ns.length ≤ 1000000) (hk : ns.length < k) (h : acc.length + 4 * ns.length < 140737488355328) : creds_put.f k acc ns = some (acc ++ numsL ns) := by
  unfold creds_put.f
  have := cput_l0 ns hn ns.length k 0 acc (by omega) (by omega) hk h
  simpa using this

/-- Who calls, as bytes. -/
def credB (s : Int) (m : ByteArray) (u g : Int) (gs : List Int) : List Int := beL s 4 ++ (putL (bytesOf m) ++ (beL u 4 ++ (beL g 4 ++ (beL gs.length 4 ++ numsL gs))))
theorem padI_small (n : Nat) : (padI n).toNat ≤ 3 := by have := padI_range n; omega
theorem credB_length (s : Int) (m : ByteArray) (u g : Int) (gs : List Int) : (credB s m u g gs).length = 16 + (putL (bytesOf m)).length + 4 * gs.length := by
  unfold credB; simp only [List.length_append, beL_length, numsL_length]; omega
theorem cPut_ok (k : Nat) (s : Int) (m : ByteArray) (u g : Int) (gs : List Int) (hm : m.size ≤ 255) (hg : gs.length ≤ 16) (hk : 20 < k) : creds_Put.f (k + 1) s m u g gs = some (credB s m u g gs, 0) := by
  have hpl := putL_length (bytesOf m)
  have hps := padI_small (bytesOf m).length
  have hbm := bytesOf_length m
  unfold creds_Put.f
  rw [if_neg (by omega), creds_Put.j0, decide_eq_false (by omega), if_neg (by simp)]
  rw [cput_f k [] [s] (by simp) (by simp; omega) (by simp), Option.bind_some, sput_f m (by omega), Option.bind_some]
  rw [if_pos (by simp only [List.length_append, List.length_nil, numsL_length, List.length_cons]; omega)]
  rw [show ((gs.length : Int) % 4294967296) = (gs.length : Int) by omega]
  rw [cput_f k _ [u, g, (gs.length : Int)] (by simp) (by simp; omega) (by simp only [List.length_append, List.length_nil, numsL_length, List.length_cons]; omega), Option.bind_some]
  rw [cput_f k _ gs (by omega) (by omega) (by simp only [List.length_append, List.length_nil, numsL_length, List.length_cons]; omega), Option.bind_some]
  simp only [numsL, credB, List.nil_append, List.append_nil, List.append_assoc]
theorem cPut_no (k : Nat) (s : Int) (m : ByteArray) (u g : Int) (gs : List Int) (h : 255 < m.size ∨ 16 < gs.length) : creds_Put.f (k + 1) s m u g gs = some ([], 1) := by
  unfold creds_Put.f
  by_cases hm : (m.size : Int) > 255
  · rw [if_pos hm, creds_Put.j0, if_pos rfl]
  · rw [if_neg hm, creds_Put.j0, decide_eq_true (by omega), if_pos rfl]

/-! ### What is read is what stood there -/
theorem numG_inv {l l' : List Int} {e0 x : Int} (hb : byteOk l = true) (h : numG l e0 = (x, l', 0)) : e0 = 0 ∧ l = beL x 4 ++ l' := by
  unfold numG at h
  by_cases he : e0 = 0
  · rw [if_pos he] at h
    by_cases hl : l.length < 4
    · rw [if_pos hl] at h; simp at h
    · rw [if_neg hl] at h
      simp only [Prod.mk.injEq] at h
      obtain ⟨rfl, rfl, _⟩ := h
      refine ⟨he, ?_⟩
      rw [be4_de _ (by rw [List.length_take]; omega) (byteOk_take hb 4), List.take_append_drop]
  · rw [if_neg he] at h
    simp only [Prod.mk.injEq] at h
    exact absurd h.2.2 he
theorem strG_inv {l l' : List Int} {e0 : Int} {m : ByteArray} (hb : byteOk l = true) (h : strG l e0 = (m, l', 0)) : e0 = 0 ∧ l = putL (bytesOf m) ++ l' ∧ m.size ≤ 255 := by
  unfold strG at h
  by_cases he : e0 = 0
  · rw [if_pos he] at h
    refine ⟨he, ?_⟩
    unfold strings_Get.f at h
    rcases get_again l 255 hb with ⟨e, hne, hg⟩ | ⟨xs, n, hg, hn, hx, hp, hbx, hlx⟩
    · rw [hg] at h
      simp only [Option.map_some, Prod.mk.injEq] at h
      exact absurd h.2.2 hne
    · rw [hg] at h
      simp only [Option.map_some, Prod.mk.injEq, Int.toNat_natCast] at h
      obtain ⟨rfl, rfl, _⟩ := h
      rw [bytesOf_str xs hbx, hp, List.take_append_drop, strOfNums_size]
      exact ⟨rfl, by omega⟩
  · rw [if_neg he] at h
    simp only [Prod.mk.injEq] at h
    exact absurd h.2.2 he
theorem grpG_inv : ∀ (k : Nat) (gs l gs' l' : List Int) (e : Int), byteOk l = true → grpG k gs l e = (gs', l', 0) → e = 0 ∧ ∃ ns, gs' = gs ++ ns ∧ ns.length = k ∧ l = numsL ns ++ l'
  | 0, gs, l, gs', l', e, hb, h => by
    simp only [grpG, Prod.mk.injEq] at h
    obtain ⟨rfl, rfl, he⟩ := h
    exact ⟨he, [], by simp, rfl, rfl⟩
  | k + 1, gs, l, gs', l', e, hb, h => by
    rw [grpG] at h
    by_cases he : e = 0
    · rw [if_pos he] at h
      obtain ⟨h1, ns, h2, h3, h4⟩ := grpG_inv k _ _ _ _ _ (numG_ok hb e) h
      have hx : numG l e = ((numG l e).1, (numG l e).2.1, 0) := by rw [← h1]
      obtain ⟨_, h5⟩ := numG_inv hb hx
      refine ⟨he, (numG l e).1 :: ns, by rw [h2]; simp, by simp [h3], ?_⟩
      rw [numsL, List.append_assoc, ← h4]; exact h5
    · rw [if_neg he] at h
      simp only [Prod.mk.injEq] at h
      exact absurd h.2.2 he
theorem limG_inv {k e : Int} (h : limG k e = 0) : e = 0 ∧ k ≤ 16 := by
  refine ⟨?_, limG_zero h⟩
  unfold limG at h
  by_cases he : e = 0
  · exact he
  · rw [if_neg he] at h; exact h
theorem endG_inv {l : List Int} {e : Int} (h : endG l e = 0) : e = 0 ∧ l = [] := by
  unfold endG at h
  by_cases he : e = 0
  · rw [if_pos he] at h
    refine ⟨he, ?_⟩
    by_cases hl : 0 < l.length
    · rw [if_pos hl] at h; omega
    · exact List.eq_nil_of_length_eq_zero (by omega)
  · rw [if_neg he] at h; exact absurd h he
/-- Who is got of any bytes is nobody, or is put as these. -/
theorem cred_again (l : List Int) (hb : byteOk l = true) :
    (∃ e : Int, e ≠ 0 ∧ credG l = ⟨0, ByteArray.empty, 0, 0, [], e⟩) ∨
    (∃ s m u g gs, credG l = ⟨s, m, u, g, gs, 0⟩ ∧ l = credB s m u g gs ∧ m.size ≤ 255 ∧ gs.length ≤ 16) := by
  obtain ⟨a, ha⟩ : ∃ a, numG l 0 = a := ⟨_, rfl⟩
  obtain ⟨s, hs⟩ : ∃ s, strG a.2.1 a.2.2 = s := ⟨_, rfl⟩
  obtain ⟨u, hu⟩ : ∃ u, numG s.2.1 s.2.2 = u := ⟨_, rfl⟩
  obtain ⟨g, hg⟩ : ∃ g, numG u.2.1 u.2.2 = g := ⟨_, rfl⟩
  obtain ⟨k, hk⟩ : ∃ k, numG g.2.1 g.2.2 = k := ⟨_, rfl⟩
  obtain ⟨r, hr⟩ : ∃ r, grpG k.1.toNat [] k.2.1 (limG k.1 k.2.2) = r := ⟨_, rfl⟩
  have hR : credG l = (if endG r.2.1 r.2.2 = 0 then (⟨a.1, s.1, u.1, g.1, r.1, 0⟩ : CredR) else ⟨0, ByteArray.empty, 0, 0, [], endG r.2.1 r.2.2⟩) := by
    unfold credG; subst ha; subst hs; subst hu; subst hg; subst hk; subst hr; rfl
  rw [hR]
  by_cases hz : endG r.2.1 r.2.2 = 0
  · rw [if_pos hz]
    have oka : byteOk a.2.1 = true := ha ▸ numG_ok hb 0
    have oks : byteOk s.2.1 = true := hs ▸ strG_ok oka _
    have oku : byteOk u.2.1 = true := hu ▸ numG_ok oks _
    have okg : byteOk g.2.1 = true := hg ▸ numG_ok oku _
    have okk : byteOk k.2.1 = true := hk ▸ numG_ok okg _
    have rk := hk ▸ numG_range okg g.2.2
    obtain ⟨h1, h2⟩ := endG_inv hz
    obtain ⟨h3, ns, h4, h5, h6⟩ := grpG_inv k.1.toNat [] k.2.1 r.1 r.2.1 _ okk (by rw [hr, ← h1])
    obtain ⟨h7, h8⟩ := limG_inv h3
    obtain ⟨h9, h10⟩ := numG_inv okg (x := k.1) (l' := k.2.1) (by rw [hk, ← h7])
    obtain ⟨h11, h12⟩ := numG_inv oku (x := g.1) (l' := g.2.1) (by rw [hg, ← h9])
    obtain ⟨h13, h14⟩ := numG_inv oks (x := u.1) (l' := u.2.1) (by rw [hu, ← h11])
    obtain ⟨h15, h16, h17⟩ := strG_inv oka (m := s.1) (l' := s.2.1) (by rw [hs, ← h13])
    obtain ⟨_, h18⟩ := numG_inv hb (x := a.1) (l' := a.2.1) (by rw [ha, ← h15])
    refine .inr ⟨a.1, s.1, u.1, g.1, r.1, rfl, ?_, h17, ?_⟩
    · rw [h2, List.append_nil] at h6
      rw [List.nil_append] at h4
      rw [h18, h16, h14, h12, h10, h6, h4]
      unfold credB
      rw [show ((ns.length : Nat) : Int) = k.1 by have := rk.1; omega]
    · rw [h4]; simp; omega
  · rw [if_neg hz]; exact .inl ⟨_, hz, rfl⟩

/-! ### What stands there is read -/
theorem take_be (x : Int) (rest : List Int) (i : Nat) (h : 4 ≤ i) : (beL x 4 ++ rest).take i = beL x 4 ++ rest.take (i - 4) := by
  rw [List.take_append, beL_length, List.take_of_length_le (by rw [beL_length]; exact h)]
theorem numG_be (x : Int) (rest : List Int) (h0 : 0 ≤ x) (h1 : x < 4294967296) : numG (beL x 4 ++ rest) 0 = (x, rest, 0) := by
  have hd := List.drop_left (l₁ := beL x 4) (l₂ := rest)
  rw [beL_length] at hd
  unfold numG
  rw [if_pos rfl, if_neg (by simp [beL_length]), List.take_append_of_le_length (by rw [beL_length]; omega), List.take_of_length_le (by rw [beL_length]; omega), deB4 x h0 h1, hd]
theorem numG_low {l : List Int} (h : l.length < 4) : numG l 0 = (0, l, 4) := by
  unfold numG; rw [if_pos rfl, if_pos h]
theorem numG_err {e : Int} (l : List Int) (h : e ≠ 0) : numG l e = (0, l, e) := by unfold numG; rw [if_neg h]
theorem grpG_err {e : Int} (h : e ≠ 0) : ∀ (k : Nat) (gs l : List Int), grpG k gs l e = (gs, l, e)
  | 0, _, _ => rfl
  | k + 1, _, _ => by rw [grpG, if_neg h]
theorem strG_put (m : ByteArray) (rest : List Int) (h : m.size ≤ 255) : strG (putL (bytesOf m) ++ rest) 0 = (m, rest, 0) := by
  have hl := bytesOf_length m
  have hp := padI_range (bytesOf m).length
  have hpl := putL_length (bytesOf m)
  unfold strG
  rw [if_pos rfl]
  unfold strings_Get.f
  rw [get_put _ _ _ (by omega) (by omega), Option.map_some]
  dsimp only
  rw [str_bytesOf, show (4 + ((bytesOf m).length : Int) + padI (bytesOf m).length).toNat = (putL (bytesOf m)).length by omega, List.drop_left]
theorem strG_low (m : ByteArray) (i : Nat) (h : m.size ≤ 255) (hi : i < (putL (bytesOf m)).length) : ∃ s l', strG ((putL (bytesOf m)).take i) 0 = (s, l', 4) := by
  have hl := bytesOf_length m
  unfold strG
  rw [if_pos rfl]
  unfold strings_Get.f
  rw [get_put_cut _ _ _ (by omega) (by omega) hi, Option.map_some]
  exact ⟨_, _, rfl⟩
theorem grpG_nums : ∀ (ns gs rest : List Int), (∀ n ∈ ns, 0 ≤ n ∧ n < 4294967296) → grpG ns.length gs (numsL ns ++ rest) 0 = (gs ++ ns, rest, 0)
  | [], gs, rest, _ => by simp [grpG, numsL]
  | n :: ns, gs, rest, h => by
    have hn := h n (List.mem_cons_self ..)
    rw [List.length_cons, grpG, if_pos rfl, numsL, List.append_assoc, numG_be n _ hn.1 hn.2]
    dsimp only
    rw [grpG_nums ns _ rest (fun x hx => h x (List.mem_cons_of_mem _ hx)), List.append_assoc]
    rfl
theorem grpG_low : ∀ (ns gs : List Int) (i : Nat), (∀ n ∈ ns, 0 ≤ n ∧ n < 4294967296) → i < 4 * ns.length → ∃ gs' l', grpG ns.length gs ((numsL ns).take i) 0 = (gs', l', 4)
  | [], gs, i, _, h => absurd h (by simp)
  | n :: ns, gs, i, h, hi => by
    have hn := h n (List.mem_cons_self ..)
    rw [List.length_cons, grpG, if_pos rfl, numsL]
    by_cases h4 : i < 4
    · rw [numG_low (by rw [List.length_take]; omega)]
      dsimp only
      rw [grpG_err (by omega)]
      exact ⟨_, _, rfl⟩
    · rw [take_be n _ i (by omega), numG_be n _ hn.1 hn.2]
      dsimp only
      exact grpG_low ns _ (i - 4) (fun x hx => h x (List.mem_cons_of_mem _ hx)) (by rw [List.length_cons] at hi; omega)

theorem cred_read (s : Int) (m : ByteArray) (u g : Int) (gs rest : List Int) (hs : 0 ≤ s ∧ s < 4294967296) (hu : 0 ≤ u ∧ u < 4294967296) (hg : 0 ≤ g ∧ g < 4294967296) (hgs : ∀ n ∈ gs, 0 ≤ n ∧ n < 4294967296) (hm : m.size ≤ 255) (hl : gs.length ≤ 16) :
    credG (credB s m u g gs ++ rest) = if rest = [] then ⟨s, m, u, g, gs, 0⟩ else ⟨0, ByteArray.empty, 0, 0, [], 5⟩ := by
  unfold credG credB
  simp only [List.append_assoc]
  rw [numG_be s _ hs.1 hs.2]; dsimp only
  rw [strG_put m _ hm]; dsimp only
  rw [numG_be u _ hu.1 hu.2]; dsimp only
  rw [numG_be g _ hg.1 hg.2]; dsimp only
  rw [numG_be (gs.length : Int) _ (by omega) (by omega)]; dsimp only
  rw [show limG (gs.length : Int) 0 = 0 by unfold limG; rw [if_pos rfl, if_neg (by omega)], Int.toNat_natCast, grpG_nums gs [] rest hgs]
  dsimp only
  unfold endG
  rw [if_pos rfl]
  cases rest with
  | nil => simp
  | cons x xs => simp
theorem cred_many (s : Int) (m : ByteArray) (u g : Int) (gs : List Int) (hs : 0 ≤ s ∧ s < 4294967296) (hu : 0 ≤ u ∧ u < 4294967296) (hg : 0 ≤ g ∧ g < 4294967296) (hm : m.size ≤ 255) (hl : 16 < gs.length) (hl2 : gs.length < 4294967296) :
    credG (credB s m u g gs) = ⟨0, ByteArray.empty, 0, 0, [], 3⟩ := by
  unfold credG credB
  rw [numG_be s _ hs.1 hs.2]; dsimp only
  rw [strG_put m _ hm]; dsimp only
  rw [numG_be u _ hu.1 hu.2]; dsimp only
  rw [numG_be g _ hg.1 hg.2]; dsimp only
  rw [numG_be (gs.length : Int) _ (by omega) (by omega)]; dsimp only
  rw [show limG (gs.length : Int) 0 = 3 by unfold limG; rw [if_pos rfl, if_pos (by omega)], grpG_err (by omega)]
  rfl
theorem lim4 (k : Int) : limG k 4 = 4 := rfl
theorem end4 (l : List Int) : endG l 4 = 4 := rfl
theorem cred_cut (s : Int) (m : ByteArray) (u g : Int) (gs : List Int) (i : Nat) (hs : 0 ≤ s ∧ s < 4294967296) (hu : 0 ≤ u ∧ u < 4294967296) (hg : 0 ≤ g ∧ g < 4294967296) (hgs : ∀ n ∈ gs, 0 ≤ n ∧ n < 4294967296) (hm : m.size ≤ 255) (hl : gs.length ≤ 16) (hi : i < (credB s m u g gs).length) :
    (credG ((credB s m u g gs).take i)).e = 4 := by
  have n4 : ∀ l, numG l 4 = (0, l, 4) := fun l => numG_err l (by omega)
  have s4 : ∀ l, strG l 4 = (ByteArray.empty, l, 4) := fun l => strG_else (by omega)
  have g4 : ∀ k gs l, grpG k gs l 4 = (gs, l, 4) := fun k gs l => grpG_err (by omega) k gs l
  rw [credB_length] at hi
  have fin : ∀ (P : Prop) [Decidable P] (a b : CredR), ¬ P → b.e = 4 → (if P then a else b).e = 4 := fun P _ a b hp hb => by rw [if_neg hp]; exact hb
  unfold credG credB
  by_cases h1 : i < 4
  · rw [numG_low (by rw [List.length_take]; omega)]; dsimp only
    rw [s4]; dsimp only; rw [n4]; dsimp only; rw [n4]; dsimp only; rw [n4]; dsimp only; rw [lim4, g4]; dsimp only; rw [end4]; exact fin _ _ _ (by omega) rfl
  · rw [take_be s _ i (by omega), numG_be s _ hs.1 hs.2]; dsimp only
    by_cases h2 : i - 4 < (putL (bytesOf m)).length
    · rw [List.take_append_of_le_length (by omega)]
      obtain ⟨a, b, he⟩ := strG_low m (i - 4) hm h2
      rw [he]; dsimp only; rw [n4]; dsimp only; rw [n4]; dsimp only; rw [n4]; dsimp only; rw [lim4, g4]; dsimp only; rw [end4]; exact fin _ _ _ (by omega) rfl
    · rw [List.take_append, List.take_of_length_le (by omega), strG_put m _ hm]; dsimp only
      obtain ⟨j, hj⟩ : ∃ j, i - 4 - (putL (bytesOf m)).length = j := ⟨_, rfl⟩
      rw [hj]
      by_cases h3 : j < 4
      · rw [numG_low (by rw [List.length_take]; omega)]; dsimp only
        rw [n4]; dsimp only; rw [n4]; dsimp only; rw [lim4, g4]; dsimp only; rw [end4]; exact fin _ _ _ (by omega) rfl
      · rw [take_be u _ j (by omega), numG_be u _ hu.1 hu.2]; dsimp only
        by_cases h5 : j - 4 < 4
        · rw [numG_low (by rw [List.length_take]; omega)]; dsimp only
          rw [n4]; dsimp only; rw [lim4, g4]; dsimp only; rw [end4]; exact fin _ _ _ (by omega) rfl
        · rw [take_be g _ (j - 4) (by omega), numG_be g _ hg.1 hg.2]; dsimp only
          by_cases h6 : j - 4 - 4 < 4
          · rw [numG_low (by rw [List.length_take]; omega)]; dsimp only
            rw [lim4, g4]; dsimp only; rw [end4]; exact fin _ _ _ (by omega) rfl
          · rw [take_be (gs.length : Int) _ (j - 4 - 4) (by omega), numG_be (gs.length : Int) _ (by omega) (by omega)]; dsimp only
            rw [show limG (gs.length : Int) 0 = 0 by unfold limG; rw [if_pos rfl, if_neg (by omega)], Int.toNat_natCast]
            obtain ⟨a, b, he⟩ := grpG_low gs [] (j - 4 - 4 - 4) hgs (by omega)
            rw [he]; dsimp only; rw [end4]; exact fin _ _ _ (by omega) rfl
theorem credB_mod (s : Int) (m : ByteArray) (u g : Int) (gs : List Int) : (credB s m u g gs).length % 4 = 0 := by
  rw [credB_length]; have := putL_mod (bytesOf m); omega
theorem credB_most (s : Int) (m : ByteArray) (u g : Int) (gs : List Int) (hm : m.size ≤ 255) (hl : gs.length ≤ 16) : (credB s m u g gs).length ≤ 400 := by
  rw [credB_length, putL_length, bytesOf_length]; have := padI_nat m.size; omega
theorem byteOk_nums : ∀ ns : List Int, byteOk (numsL ns) = true
  | [] => rfl
  | n :: ns => byteOk_append (byteOk_be4 n) (byteOk_nums ns)
theorem byteOk_putL (xs : List Int) (h : byteOk xs = true) : byteOk (putL xs) = true := by
  unfold putL padded
  refine byteOk_append (byteOk_be4 _) (byteOk_append h ?_)
  unfold byteOk; rw [List.all_eq_true]; intro x hx; rw [List.eq_of_mem_replicate hx]; rfl
theorem byteOk_credB (s : Int) (m : ByteArray) (u g : Int) (gs : List Int) : byteOk (credB s m u g gs) = true :=
  byteOk_append (byteOk_be4 _) (byteOk_append (byteOk_putL _ (bytesOf_ok m)) (byteOk_append (byteOk_be4 _) (byteOk_append (byteOk_be4 _) (byteOk_append (byteOk_be4 _) (byteOk_nums gs)))))

theorem nums_l0 (xs : List Int) (hl : xs.length ≤ 1000000000) : ∀ (m k i : Nat), xs.length - i = m → i ≤ xs.length → m < k → wharfingerlaw01_SameNumbers.l0 k xs xs (i : Int) = some true := by
  intro m
  induction m with
  | zero =>
    intro k i h1 h2 h3
    obtain ⟨k, rfl⟩ : ∃ m, k = m + 1 := ⟨k - 1, by omega⟩
    rw [wharfingerlaw01_SameNumbers.l0, if_neg (by omega)]
  | succ m ih =>
    intro k i h1 h2 h3
    obtain ⟨k, rfl⟩ : ∃ m, k = m + 1 := ⟨k - 1, by omega⟩
    rw [wharfingerlaw01_SameNumbers.l0, if_pos (by omega), if_pos (by omega), if_pos (by omega), if_pos rfl, wrap_in (by omega) (by omega), show ((i : Int) + 1) = ((i + 1 : Nat) : Int) by omega]
    exact ih k (i + 1) (by omega) (by omega) (by omega)
theorem sameCred_self (k : Nat) (u g : Int) (gs : List Int) (hl : gs.length ≤ 1000000000) (hk : gs.length < k) : wharfingerlaw01_SameCred.f k u g gs u g gs = some true := by
  unfold wharfingerlaw01_SameCred.f wharfingerlaw01_SameNumbers.f
  rw [if_pos rfl, if_pos rfl, if_pos rfl]
  have := nums_l0 gs hl gs.length k 0 (by omega) (by omega) hk
  rw [show ((0 : Nat) : Int) = 0 from rfl] at this
  rw [this]
  rfl

/-! ### What the document's own Put answers -/
/-! ### What the document's own Get answers -/
def numsOf : Nat → List Int → List Int
  | 0, _ => []
  | n + 1, l => deB (l.take 4) :: numsOf n (l.drop 4)
theorem numsOf_length : ∀ (n : Nat) (l : List Int), (numsOf n l).length = n
  | 0, _ => rfl
  | n + 1, l => by rw [numsOf, List.length_cons, numsOf_length n]
theorem r1get {l : List Int} (h : byteOk l = true) : wharfingerref01_Get.f l = some (if l.length < 4 then 0 else deB (l.take 4), if l.length < 4 then 4 else 0) := by
  unfold wharfingerref01_Get.f words_Get.f; rw [if_pos (byteOk_take h 4)]
theorem rnum_l0 (l : List Int) (N : Nat) (hb : byteOk l = true) (hl : l.length ≤ 140737488351232) (hN : N ≤ 1000) : ∀ (n k i at_ : Nat) (acc : List Int), i + n = N → at_ ≤ l.length → n < k → acc.length = i → wharfingerref05_numbers.l0 k l (at_ : Int) (N : Int) acc (i : Int) = some (if (l.drop at_).length < 4 * n then ([], 0, 4) else (acc ++ numsOf n (l.drop at_), ((at_ + 4 * n : Nat) : Int), 0)) := by
  intro n
  induction n with
  | zero =>
    intro k i a acc h1 h2 h3 h4
    obtain ⟨k, rfl⟩ : ∃ k', k = k' + 1 := ⟨k - 1, by omega⟩
    rw [wharfingerref05_numbers.l0, if_neg (by omega), if_neg (by omega), numsOf, List.append_nil, Nat.mul_zero, Nat.add_zero]
  | succ n ih =>
    intro k i a acc h1 h2 h3 h4
    obtain ⟨k, rfl⟩ : ∃ k', k = k' + 1 := ⟨k - 1, by omega⟩
    rw [wharfingerref05_numbers.l0, if_pos (by omega), if_pos (by omega), if_pos (by omega), Int.toNat_natCast, r1get (byteOk_drop hb a), Option.bind_some]
    dsimp only
    by_cases h : (l.drop a).length < 4
    · rw [if_pos h, if_neg (by decide), if_pos (by omega)]
    · have hd : (l.drop a).length = l.length - a := List.length_drop ..
      rw [if_neg h, if_pos rfl, if_pos (by omega), if_neg h, wrap_in (by omega) (by omega), wrap_in (by omega) (by omega)]
      rw [show ((a : Int) + 4) = ((a + 4 : Nat) : Int) by omega, show ((i : Int) + 1) = ((i + 1 : Nat) : Int) by omega]
      rw [ih k (i + 1) (a + 4) _ (by omega) (by omega) (by omega) (by rw [List.length_append, h4]; rfl)]
      rw [show l.drop (a + 4) = (l.drop a).drop 4 by rw [List.drop_drop], List.length_drop]
      by_cases h5 : (l.drop a).length < 4 * (n + 1)
      · rw [if_pos h5, if_pos (by omega)]
      · rw [if_neg h5, if_neg (by omega), numsOf, List.append_assoc, show a + 4 + 4 * n = a + 4 * (n + 1) by omega]
        rfl
theorem rnum_f (k : Nat) (l : List Int) (a N : Nat) (hb : byteOk l = true) (hl : l.length ≤ 140737488351232) (hN : N ≤ 1000) (ha : a ≤ l.length) (hk : N < k) : wharfingerref05_numbers.f k l (a : Int) (N : Int) = some (if (l.drop a).length < 4 * N then ([], 0, 4) else (numsOf N (l.drop a), ((a + 4 * N : Nat) : Int), 0)) := by
  unfold wharfingerref05_numbers.f
  have := rnum_l0 l N hb hl hN N k 0 a [] (by omega) ha hk rfl
  rw [List.nil_append, show ((0 : Nat) : Int) = 0 from rfl] at this
  exact this
theorem numG_ge {l : List Int} (h : 4 ≤ l.length) : numG l 0 = (deB (l.take 4), l.drop 4, 0) := by
  unfold numG; rw [if_pos rfl, if_neg (by omega)]
theorem grpG_few : ∀ (n : Nat) (gs l : List Int), l.length < 4 * n → ∃ gs' l', grpG n gs l 0 = (gs', l', 4)
  | 0, gs, l, h => by omega
  | n + 1, gs, l, h => by
    rw [grpG, if_pos rfl]
    by_cases h4 : l.length < 4
    · rw [numG_low h4]; exact ⟨_, _, grpG_err (e := 4) (by decide) _ _ _⟩
    · rw [numG_ge (by omega)]; exact grpG_few n _ _ (by rw [List.length_drop]; omega)
theorem grpG_many : ∀ (n : Nat) (gs l : List Int), 4 * n ≤ l.length → grpG n gs l 0 = (gs ++ numsOf n l, l.drop (4 * n), 0)
  | 0, gs, l, h => by rw [grpG, numsOf, List.append_nil]; rfl
  | n + 1, gs, l, h => by
    rw [grpG, if_pos rfl, numG_ge (by omega)]
    rw [grpG_many n _ _ (by rw [List.length_drop]; omega), numsOf, List.append_assoc, List.drop_drop, show 4 + 4 * n = 4 * (n + 1) by omega]
    rfl
/-- The steps of the reader, given one by one. -/
theorem credG_of {l l1 l2 l3 l4 l5 l6 gs : List Int} {s u g k e1 e2 e3 e4 e5 e6 : Int} {m : ByteArray} (h1 : numG l 0 = (s, l1, e1)) (h2 : strG l1 e1 = (m, l2, e2)) (h3 : numG l2 e2 = (u, l3, e3)) (h4 : numG l3 e3 = (g, l4, e4)) (h5 : numG l4 e4 = (k, l5, e5)) (h6 : grpG k.toNat [] l5 (limG k e5) = (gs, l6, e6)) :
    credG l = if endG l6 e6 = 0 then ⟨s, m, u, g, gs, 0⟩ else ⟨0, ByteArray.empty, 0, 0, [], endG l6 e6⟩ := by
  unfold credG
  rw [h1]; dsimp only; rw [h2]; dsimp only; rw [h3]; dsimp only; rw [h4]; dsimp only; rw [h5]; dsimp only; rw [h6]
theorem end_err {l : List Int} {e : Int} (h : e ≠ 0) : endG l e = e := by unfold endG; rw [if_neg h]
theorem lim_err {k e : Int} (h : e ≠ 0) : limG k e = e := by unfold limG; rw [if_neg h]
theorem lim_grp {k e : Int} {l : List Int} (h : e ≠ 0) : grpG k.toNat [] l (limG k e) = ([], l, e) := by rw [lim_err h]; exact grpG_err h _ _ _
theorem lim_grp0 {q : Nat} {e : Int} {l : List Int} {r : List Int × List Int × Int} (h : limG q e = 0) (hg : grpG q [] l 0 = r) : grpG ((q : Int)).toNat [] l (limG q e) = r := by rw [h, Int.toNat_natCast]; exact hg
theorem lim_grp3 {q : Int} {l : List Int} (h : q > 16) : grpG q.toNat [] l (limG q 0) = ([], l, 3) := by rw [show limG q 0 = 3 by unfold limG; rw [if_pos rfl, if_pos h]]; exact grpG_err (by decide) _ _ _
theorem rGet_f (l : List Int) (hb : byteOk l = true) (hl : l.length ≤ 140737488351232) : wharfingerref05_Get.f 40 l = some ((credG l).s, (credG l).m, (credG l).u, (credG l).g, (credG l).gs, (credG l).e) := by
  unfold wharfingerref05_Get.f
  have hn1 : wharfingerref05_numbers.f 40 l 0 1 = _ := rnum_f 40 l 0 1 hb hl (by omega) (by omega) (by omega)
  rw [hn1, Option.bind_some, List.drop_zero]
  by_cases h1 : l.length < 4
  · rw [if_pos (show l.length < 4 * 1 by omega)]
    dsimp only
    have hc := credG_of (numG_low h1) (strG_else (e := 4) (by decide)) (numG_err (e := 4) _ (by decide)) (numG_err (e := 4) _ (by decide)) (numG_err (e := 4) _ (by decide)) (lim_grp (e := 4) (by decide))
    rw [end_err (by decide), if_neg (by decide)] at hc
    rw [if_neg (by decide), hc]
    rfl
  rw [if_neg (show ¬ l.length < 4 * 1 by omega)]
  dsimp only
  have a1 := numG_ge (l := l) (by omega)
  have hb1 : byteOk (l.drop 4) = true := byteOk_drop hb 4
  obtain ⟨m, n, e, hs, hn⟩ := sget_some hb1
  have a2 := strG_zero hs
  rw [List.length_drop] at hn
  rw [if_pos rfl, if_pos (by omega), if_pos (by omega), Int.toNat_natCast, show 0 + 4 * 1 = 4 from rfl]
  rw [show wharfingerref03_Get.f (l.drop 4) 255 = some (m, (n : Int), e) by unfold wharfingerref03_Get.f; rw [if_pos ⟨hb1, by rw [List.length_drop]; omega⟩]; exact hs, Option.bind_some]
  dsimp only
  by_cases he : e = 0
  case neg =>
    rw [if_neg he]
    have hc := credG_of a1 a2 (numG_err _ he) (numG_err _ he) (numG_err _ he) (lim_grp he)
    rw [end_err he, if_neg he] at hc
    rw [hc]
    rfl
  subst he
  have hn3 : wharfingerref05_numbers.f 40 l ((4 + n : Nat) : Int) 3 = _ := rnum_f 40 l (4 + n) 3 hb hl (by omega) (by omega) (by omega)
  rw [if_pos rfl, wrap_in (by omega) (by omega), show ((4 : Nat) : Int) + (n : Int) = ((4 + n : Nat) : Int) by omega, hn3, Option.bind_some]
  obtain ⟨y, hy⟩ : ∃ y, l.drop (4 + n) = y := ⟨_, rfl⟩
  have hyl : y.length = l.length - (4 + n) := by rw [← hy, List.length_drop]
  have hby : byteOk y = true := hy ▸ byteOk_drop hb _
  rw [List.drop_drop, hy] at a2
  rw [hy]
  by_cases h3 : y.length < 4 * 3
  · rw [if_pos h3]
    dsimp only
    rw [if_neg (by decide)]
    have hc : ∃ s m u g gs, credG l = if endG [] 4 = 0 then ⟨s, m, u, g, gs, 0⟩ else ⟨0, ByteArray.empty, 0, 0, [], 4⟩ := by
      by_cases q1 : y.length < 4
      · have hc := credG_of a1 a2 (numG_low q1) (numG_err (e := 4) _ (by decide)) (numG_err (e := 4) _ (by decide)) (lim_grp (e := 4) (by decide))
        exact ⟨_, _, _, _, _, hc⟩
      · have b1 := numG_ge (l := y) (by omega)
        by_cases q2 : y.length < 8
        · have hc := credG_of a1 a2 b1 (numG_low (by rw [List.length_drop]; omega)) (numG_err (e := 4) _ (by decide)) (lim_grp (e := 4) (by decide))
          exact ⟨_, _, _, _, _, hc⟩
        · have hc := credG_of a1 a2 b1 (numG_ge (by rw [List.length_drop]; omega)) (numG_low (by rw [List.length_drop, List.length_drop]; omega)) (lim_grp (e := 4) (by decide))
          exact ⟨_, _, _, _, _, hc⟩
    obtain ⟨_, _, _, _, _, hc⟩ := hc
    rw [if_neg (by decide)] at hc
    rw [hc]
    rfl
  rw [if_neg h3]
  dsimp only
  have b1 := numG_ge (l := y) (by omega)
  have b2 := numG_ge (l := y.drop 4) (by rw [List.length_drop]; omega)
  have b3 := numG_ge (l := (y.drop 4).drop 4) (by rw [List.length_drop, List.length_drop]; omega)
  rw [if_pos rfl, numsOf_length, if_pos (by decide)]
  rw [show rd (numsOf 3 y) 2 = deB (((y.drop 4).drop 4).take 4) from rfl, show rd (numsOf 3 y) 0 = deB (y.take 4) from rfl, show rd (numsOf 3 y) 1 = deB ((y.drop 4).take 4) from rfl]
  have hkr := deB_range 4 (((y.drop 4).drop 4).take 4) (by simp; omega) (byteOk_take (byteOk_drop (byteOk_drop hby 4) 4) 4)
  obtain ⟨q, hq⟩ : ∃ q : Nat, deB (((y.drop 4).drop 4).take 4) = q := ⟨(deB (((y.drop 4).drop 4).take 4)).toNat, by omega⟩
  rw [hq] at b3 hkr ⊢
  have hz : ((y.drop 4).drop 4).drop 4 = y.drop 12 := by rw [List.drop_drop, List.drop_drop]
  rw [hz] at b3
  by_cases h16 : (q : Int) > 16
  · rw [if_pos h16]
    have hc := credG_of a1 a2 b1 b2 b3 (lim_grp3 h16)
    rw [end_err (by decide), if_neg (by decide)] at hc
    rw [hc]
    rfl
  rw [if_neg h16, wrap_in (by omega) (by omega), rnum_f 40 l (4 + n + 4 * 3) q hb hl (by omega) (by omega) (by omega), Option.bind_some]
  have hl0 : limG q 0 = 0 := by unfold limG; rw [if_pos rfl, if_neg h16]
  have hyz : l.drop (4 + n + 4 * 3) = y.drop 12 := by rw [← hy, List.drop_drop]
  rw [hyz]
  by_cases h5 : (y.drop 12).length < 4 * q
  · rw [if_pos h5]
    dsimp only
    rw [if_neg (by decide)]
    obtain ⟨gs', l', hgr⟩ := grpG_few q [] (y.drop 12) h5
    have hc := credG_of a1 a2 b1 b2 b3 (lim_grp0 hl0 hgr)
    rw [end_err (by decide), if_neg (by decide)] at hc
    rw [hc]
    rfl
  rw [if_neg h5]
  dsimp only
  rw [if_pos rfl]
  have hgr := grpG_many q [] (y.drop 12) (by omega)
  have hc := credG_of a1 a2 b1 b2 b3 (lim_grp0 hl0 hgr)
  rw [List.nil_append] at hc
  have hdl : (y.drop 12).length = y.length - 12 := List.length_drop ..
  by_cases h6 : ((4 + n + 4 * 3 + 4 * q : Nat) : Int) < (l.length : Int)
  · rw [if_pos h6]
    have h7 : endG ((y.drop 12).drop (4 * q)) 0 = 5 := by unfold endG; rw [if_pos rfl, if_pos (by rw [List.length_drop]; omega)]
    rw [h7, if_neg (by decide)] at hc
    rw [hc]
    rfl
  · rw [if_neg h6]
    have h7 : endG ((y.drop 12).drop (4 * q)) 0 = 0 := by unfold endG; rw [if_pos rfl, if_neg (by rw [List.length_drop]; omega)]
    rw [h7, if_pos rfl] at hc
    rw [numsOf_length, if_pos (by decide), if_pos (by decide), if_pos (by decide), hc]
    rfl
theorem grpG_len {e : Int} : ∀ (n : Nat) (gs l : List Int) (e : Int), (grpG n gs l e).1.length ≤ gs.length + n
  | 0, gs, l, e => Nat.le_refl _
  | n + 1, gs, l, e => by
    rw [grpG]
    by_cases he : e = 0
    · rw [if_pos he]
      have := grpG_len (e := e) n (gs ++ [(numG l e).1]) (numG l e).2.1 (numG l e).2.2
      rw [List.length_append, List.length_singleton] at this
      omega
    · rw [if_neg he]; dsimp only; omega
theorem credG_len (l : List Int) : (credG l).gs.length ≤ 16 := by
  obtain ⟨s, l1, e1, h1⟩ : ∃ s l1 e1, numG l 0 = (s, l1, e1) := ⟨_, _, _, rfl⟩
  obtain ⟨m, l2, e2, h2⟩ : ∃ s l2 e2, strG l1 e1 = (s, l2, e2) := ⟨_, _, _, rfl⟩
  obtain ⟨u, l3, e3, h3⟩ : ∃ s l3 e3, numG l2 e2 = (s, l3, e3) := ⟨_, _, _, rfl⟩
  obtain ⟨g, l4, e4, h4⟩ : ∃ s l4 e4, numG l3 e3 = (s, l4, e4) := ⟨_, _, _, rfl⟩
  obtain ⟨k, l5, e5, h5⟩ : ∃ s l5 e5, numG l4 e4 = (s, l5, e5) := ⟨_, _, _, rfl⟩
  obtain ⟨gs, l6, e6, h6⟩ : ∃ s l6 e6, grpG k.toNat [] l5 (limG k e5) = (s, l6, e6) := ⟨_, _, _, rfl⟩
  have hgl : gs.length ≤ 16 := by
    by_cases hk : limG k e5 = 0
    · have h7 := limG_zero hk
      have h8 := grpG_len (e := 0) k.toNat [] l5 (limG k e5)
      rw [h6] at h8
      simp only [List.length_nil] at h8
      omega
    · rw [grpG_err hk] at h6
      simp only [Prod.mk.injEq] at h6
      rw [← h6.1]; exact Nat.zero_le _
  rw [credG_of h1 h2 h3 h4 h5 h6]
  by_cases he : endG l6 e6 = 0
  · rw [if_pos he]; exact hgl
  · rw [if_neg he]; exact Nat.zero_le _
theorem get_both (l : List Int) (hb : byteOk l = true) (hl : l.length ≤ 140737488351232) :
    ∃ (s : Int) (m : ByteArray) (u g : Int) (x : List Int) (e : Int), creds_Get.f l = some (s, m, u, g, x, e) ∧ wharfingerref05_Get.f 40 l = some (s, m, u, g, x, e) ∧ x.length ≤ 16 :=
  ⟨_, _, _, _, _, _, by unfold creds_Get.f; rw [if_pos hb], rGet_f l hb hl, credG_len l⟩

/-! ### Calls: what stands ahead of a body -/
/-- Is a number what is asked for (none: any)? -/
def askG (s : Option Int) (n : Int) : Int := match s with | some m => if n = m then 0 else 5 | none => 0
/-- Numbers out of bytes, some of which must be given ones. -/
def hdS : List (Option Int) → List Int → Int → List Int × List Int × Int
  | [], l, e => ([], l, e)
  | s :: ss, l, e =>
    ((numG l e).1 :: (hdS ss (numG l e).2.1 (if (numG l e).2.2 = 0 then askG s (numG l e).1 else (numG l e).2.2)).1,
      (hdS ss (numG l e).2.1 (if (numG l e).2.2 = 0 then askG s (numG l e).1 else (numG l e).2.2)).2.1,
      (hdS ss (numG l e).2.1 (if (numG l e).2.2 = 0 then askG s (numG l e).1 else (numG l e).2.2)).2.2)
/-- What the seven numbers of a call must be. -/
def callAsk : List (Option Int) := [none, some 0, some 2, none, none, none, none]
/-- Bytes that say who calls. -/
def authG (l : List Int) (e : Int) : List Int × List Int × Int :=
  if e = 0 then (match opaque_Get.f l 400 with | some (x, n, e) => (x, l.drop n.toNat, e) | none => ([], l, 4)) else ([], l, e)
def flaG (f e : Int) : Int := if e = 0 then (if 1 < f then 5 else 0) else e
def credZ (e : Int) : CredR := ⟨0, ByteArray.empty, 0, 0, [], e⟩
/-- Who calls, behind the seven numbers; the bytes behind. -/
def whoG (f : Int) (l : List Int) (e : Int) : CredR × List Int :=
  if (authG l e).2.2 = 0 then (if f = 1 then (credG (authG l e).1, (authG l e).2.1) else (credZ (if (authG l e).1 = [] then 0 else 5), (authG l e).2.1)) else (credZ (authG l e).2.2, (authG l e).2.1)
def mustE (n : Int) (l : List Int) (e : Int) : Int := if (numG l e).2.2 = 0 then askG (some n) (numG l e).1 else (numG l e).2.2
def sureG (l : List Int) (e : Int) : List Int × Int :=
  ((authG (numG l e).2.1 (mustE 0 l e)).2.1, if (authG (numG l e).2.1 (mustE 0 l e)).2.2 = 0 then (if (authG (numG l e).2.1 (mustE 0 l e)).1 = [] then 0 else 5) else (authG (numG l e).2.1 (mustE 0 l e)).2.2)
/-- A call, and an error. -/
structure CallR where
  x : Int
  p : Int
  v : Int
  o : Int
  f : Int
  m : ByteArray
  s : Int
  u : Int
  g : Int
  gs : List Int
  b : List Int
  e : Int
def callZ (e : Int) : CallR := ⟨0, 0, 0, 0, 0, ByteArray.empty, 0, 0, 0, [], [], e⟩
/-- A call out of bytes, of whatever length. -/
def callH (l : List Int) : CallR :=
  let h := hdS callAsk l 0
  let w := whoG (rd h.1 6) h.2.1 (flaG (rd h.1 6) h.2.2)
  let s := sureG w.2 w.1.e
  if s.2 = 0 then ⟨rd h.1 0, rd h.1 3, rd h.1 4, rd h.1 5, rd h.1 6, w.1.m, w.1.s, w.1.u, w.1.g, w.1.gs, s.1, 0⟩ else callZ s.2
def callG (l : List Int) : CallR := if 65536 < l.length then callZ 3 else callH l

/-- The bytes that say who calls. -/
def whoL (f : Int) (m : ByteArray) (s u g : Int) (gs : List Int) : List Int := if f = 1 then credB s m u g gs else []
/-- The bytes of a call ahead of its body. -/
def callB (x p v o f : Int) (m : ByteArray) (s u g : Int) (gs : List Int) : List Int := numsL [x, 0, 2, p, v, o, f] ++ (putL (whoL f m s u g gs) ++ (beL 0 4 ++ putL []))
/-- Is anything told of who calls? -/
def toldB (m : ByteArray) (s u g : Int) (gs : List Int) : Bool := !(m.size == 0) || !(s == 0) || !(u == 0) || !(g == 0) || !(gs.length == 0)

abbrev R32 (n : Int) : Prop := 0 ≤ n ∧ n < 4294967296
theorem hdS_err {e : Int} (h : e ≠ 0) : ∀ (ss : List (Option Int)) (l : List Int), (hdS ss l e).2.2 = e
  | [], l => rfl
  | s :: ss, l => by
    show (hdS ss (numG l e).2.1 _).2.2 = e
    rw [numG_err l h]; dsimp only; rw [if_neg h]; exact hdS_err h ss l
/-- Numbers as they are asked for. -/
def Fits : List (Option Int) → List Int → Prop
  | [], [] => True
  | s :: ss, n :: ns => R32 n ∧ askG s n = 0 ∧ Fits ss ns
  | _, _ => False
theorem hdS_be : ∀ (ss : List (Option Int)) (ns rest : List Int), Fits ss ns → hdS ss (numsL ns ++ rest) 0 = (ns, rest, 0)
  | [], [], rest, _ => rfl
  | [], _ :: _, _, h => h.elim
  | _ :: _, [], _, h => h.elim
  | s :: ss, n :: ns, rest, h => by
    obtain ⟨h1, h2, h3⟩ := h
    unfold hdS
    rw [show numsL (n :: ns) ++ rest = beL n 4 ++ (numsL ns ++ rest) from List.append_assoc _ _ _, numG_be n _ h1.1 h1.2]; dsimp only
    rw [if_pos rfl, h2, hdS_be ss ns rest h3]
theorem hdS_cut : ∀ (ss : List (Option Int)) (ns : List Int) (i : Nat), Fits ss ns → i < 4 * ns.length → (hdS ss ((numsL ns).take i) 0).2.2 = 4
  | [], [], i, _, h => by simp at h
  | [], _ :: _, _, h, _ => h.elim
  | _ :: _, [], _, h, _ => h.elim
  | s :: ss, n :: ns, i, h, hi => by
    obtain ⟨h1, h2, h3⟩ := h
    unfold hdS
    rw [show numsL (n :: ns) = beL n 4 ++ numsL ns from rfl]
    by_cases h4 : i < 4
    · rw [numG_low (by rw [List.length_take]; omega)]; dsimp only
      rw [if_neg (by omega)]; exact hdS_err (by omega) _ _
    · rw [take_be n _ i (by omega), numG_be n _ h1.1 h1.2]; dsimp only
      rw [if_pos rfl, h2]
      exact hdS_cut ss ns (i - 4) h3 (by simp at hi; omega)
/-- One that is not what is asked for is refused. -/
theorem hdS_other : ∀ (qs : List (Option Int)) (ns : List Int) (s : Option Int) (ss : List (Option Int)) (n : Int) (rest : List Int), Fits qs ns → R32 n → askG s n = 5 → (hdS (qs ++ s :: ss) (numsL ns ++ (beL n 4 ++ rest)) 0).2.2 = 5
  | [], [], s, ss, n, rest, _, h1, h2 => by
    show (hdS (s :: ss) (beL n 4 ++ rest) 0).2.2 = 5
    unfold hdS
    rw [numG_be n _ h1.1 h1.2]; dsimp only
    rw [if_pos rfl, h2]; exact hdS_err (by omega) _ _
  | [], _ :: _, _, _, _, _, h, _, _ => h.elim
  | _ :: _, [], _, _, _, _, h, _, _ => h.elim
  | a :: qs, m :: ns, s, ss, n, rest, h, h1, h2 => by
    obtain ⟨k1, k2, k3⟩ := h
    show (hdS (a :: (qs ++ s :: ss)) _ 0).2.2 = 5
    unfold hdS
    rw [show numsL (m :: ns) ++ (beL n 4 ++ rest) = beL m 4 ++ (numsL ns ++ (beL n 4 ++ rest)) from List.append_assoc _ _ _, numG_be m _ k1.1 k1.2]; dsimp only
    rw [if_pos rfl, k2]
    exact hdS_other qs ns s ss n rest k3 h1 h2
theorem askG_cases (s : Option Int) (n : Int) : askG s n = 0 ∨ askG s n = 5 := by
  unfold askG; cases s with
  | none => exact .inl rfl
  | some m => by_cases h : n = m
              · dsimp only; rw [if_pos h]; exact .inl rfl
              · dsimp only; rw [if_neg h]; exact .inr rfl
theorem numG_e {l : List Int} : (numG l 0).2.2 = 0 ∨ (numG l 0).2.2 = 4 := by
  unfold numG; rw [if_pos rfl]; by_cases h : l.length < 4
  · rw [if_pos h]; exact .inr rfl
  · rw [if_neg h]; exact .inl rfl
theorem hdS_e : ∀ (ss : List (Option Int)) (l : List Int), (hdS ss l 0).2.2 = 0 ∨ (hdS ss l 0).2.2 = 4 ∨ (hdS ss l 0).2.2 = 5
  | [], l => .inl rfl
  | s :: ss, l => by
    show (hdS ss (numG l 0).2.1 (if (numG l 0).2.2 = 0 then askG s (numG l 0).1 else (numG l 0).2.2)).2.2 = 0 ∨ (hdS ss (numG l 0).2.1 (if (numG l 0).2.2 = 0 then askG s (numG l 0).1 else (numG l 0).2.2)).2.2 = 4 ∨ (hdS ss (numG l 0).2.1 (if (numG l 0).2.2 = 0 then askG s (numG l 0).1 else (numG l 0).2.2)).2.2 = 5
    rcases numG_e (l := l) with h | h
    · rw [h, if_pos rfl]
      rcases askG_cases s (numG l 0).1 with k | k
      · rw [k]; exact hdS_e ss _
      · rw [k, hdS_err (by omega)]; exact .inr (.inr rfl)
    · rw [h, if_neg (by omega), hdS_err (by omega)]; exact .inr (.inl rfl)
theorem hdS_inv : ∀ (ss : List (Option Int)) (l ns l' : List Int), byteOk l = true → hdS ss l 0 = (ns, l', 0) → Fits ss ns ∧ l = numsL ns ++ l'
  | [], l, ns, l', _, h => by
    simp only [hdS, Prod.mk.injEq] at h
    obtain ⟨rfl, rfl, _⟩ := h
    exact ⟨trivial, rfl⟩
  | s :: ss, l, ns, l', hb, h => by
    unfold hdS at h
    simp only [Prod.mk.injEq] at h
    obtain ⟨rfl, h2, h3⟩ := h
    have hr := numG_range hb 0
    rcases numG_e (l := l) with h0 | h0
    · rw [h0, if_pos rfl] at h2 h3 ⊢
      rcases askG_cases s (numG l 0).1 with k | k
      · rw [k] at h2 h3 ⊢
        obtain ⟨k1, k2⟩ := hdS_inv ss (numG l 0).2.1 _ l' (numG_ok hb 0) (Prod.ext rfl (Prod.ext h2 h3))
        refine ⟨⟨hr, k, k1⟩, ?_⟩
        have := (numG_inv hb (l' := (numG l 0).2.1) (x := (numG l 0).1) (e0 := 0) (Prod.ext rfl (Prod.ext rfl h0))).2
        conv => lhs; rw [this, k2]
        exact (List.append_assoc _ _ _).symm
      · rw [k, hdS_err (by omega)] at h3; omega
    · rw [h0, if_neg (by omega), hdS_err (by omega)] at h3; omega
theorem hdS_len : ∀ (ss : List (Option Int)) (l : List Int) (e : Int), (hdS ss l e).1.length = ss.length
  | [], _, _ => rfl
  | s :: ss, l, e => by unfold hdS; simp only [List.length_cons]; rw [hdS_len]
theorem hdS_ok : ∀ (ss : List (Option Int)) (l : List Int) (e : Int), byteOk l = true → byteOk (hdS ss l e).2.1 = true
  | [], _, _, h => h
  | s :: ss, l, e, h => by unfold hdS; exact hdS_ok ss _ _ (numG_ok h e)

theorem authG_err {e : Int} (l : List Int) (h : e ≠ 0) : authG l e = ([], l, e) := by unfold authG; rw [if_neg h]
theorem authG_put (xs rest : List Int) (h : xs.length ≤ 400) : authG (putL xs ++ rest) 0 = (xs, rest, 0) := by
  have h2 := padI_range xs.length
  have h3 := putL_length xs
  unfold authG
  rw [if_pos rfl, get_put xs rest 400 (by omega) (by omega)]
  dsimp only
  rw [show (4 + (xs.length : Int) + padI xs.length).toNat = (putL xs).length by omega, List.drop_left]
theorem authG_cut (xs : List Int) (i : Nat) (h : xs.length ≤ 400) (hi : i < (putL xs).length) : (authG ((putL xs).take i) 0).2.2 = 4 := by
  unfold authG
  rw [if_pos rfl, get_put_cut xs i 400 (by omega) (by omega) hi]
theorem authG_ok {l : List Int} (h : byteOk l = true) (e : Int) : byteOk (authG l e).1 = true ∧ byteOk (authG l e).2.1 = true := by
  unfold authG
  by_cases he : e = 0
  · rw [if_pos he]
    rcases get_again l 400 h with ⟨e, _, hg⟩ | ⟨xs, n, hg, _, _, _, hx, _⟩
    · rw [hg]; exact ⟨rfl, byteOk_drop h _⟩
    · rw [hg]; exact ⟨hx, byteOk_drop h _⟩
  · rw [if_neg he]; exact ⟨rfl, h⟩
theorem authG_inv {l : List Int} {e0 : Int} (hb : byteOk l = true) (h : (authG l e0).2.2 = 0) : e0 = 0 ∧ l = putL (authG l e0).1 ++ (authG l e0).2.1 ∧ (authG l e0).1.length ≤ 400 := by
  unfold authG at h ⊢
  by_cases he : e0 = 0
  · rw [if_pos he] at h ⊢
    rcases get_again l 400 hb with ⟨e, hz, hg⟩ | ⟨xs, n, hg, hn, hm, hp, _⟩
    · rw [hg] at h; exact absurd h hz
    · rw [hg]
      dsimp only
      refine ⟨he, ?_, by omega⟩
      rw [hp, Int.toNat_natCast, List.take_append_drop]
  · rw [if_neg he] at h; exact absurd h he
theorem cutS_e (xs : List Int) (n : Nat) : cutS xs n = 4 ∨ cutS xs n = 0 ∨ cutS xs n = 5 := by
  rcases cutS_cases xs n with h | h | h
  · exact .inl h.1
  · exact .inr (.inl h.1)
  · exact .inr (.inr h.1)
theorem authG_e {l : List Int} (hb : byteOk l = true) : (authG l 0).2.2 = 0 ∨ (authG l 0).2.2 = 3 ∨ (authG l 0).2.2 = 4 ∨ (authG l 0).2.2 = 5 := by
  unfold authG opaque_Get.f
  rw [if_pos rfl, if_pos (byteOk_take hb 4)]
  by_cases h4 : l.length < 4
  · rw [if_pos h4]; simp
  · rw [if_neg h4]
    by_cases h5 : 400 < deB (l.take 4)
    · rw [if_pos h5]; simp
    · rw [if_neg h5]
      by_cases h6 : cutS (l.drop 4) (deB (l.take 4)).toNat = 0
      · rw [if_pos h6]; simp
      · rw [if_neg h6]
        dsimp only
        rcases cutS_e (l.drop 4) (deB (l.take 4)).toNat with h | h | h
        · exact .inr (.inr (.inl h))
        · exact absurd h h6
        · exact .inr (.inr (.inr h))

theorem sureG_put (b : List Int) : sureG (beL 0 4 ++ (putL [] ++ b)) 0 = (b, 0) := by
  unfold sureG mustE
  rw [numG_be 0 _ (by omega) (by omega)]; dsimp only
  rw [if_pos rfl, show askG (some 0) 0 = 0 from rfl, authG_put [] b (by simp)]; dsimp only
  rw [if_pos rfl, if_pos rfl]
theorem sureG_err {e : Int} (l : List Int) (h : e ≠ 0) : (sureG l e).2 = e := by
  unfold sureG mustE
  rw [numG_err l h]; dsimp only
  rw [if_neg h, authG_err l h]; dsimp only
  rw [if_neg h]
theorem sureG_cut (i : Nat) (h : i < 8) : (sureG ((beL 0 4 ++ putL []).take i) 0).2 = 4 := by
  unfold sureG mustE
  by_cases h4 : i < 4
  · rw [numG_low (by rw [List.length_take]; omega)]; dsimp only
    rw [if_neg (show ¬ (4 : Int) = 0 by omega), authG_err _ (by omega)]; dsimp only
    rw [if_neg (by omega)]
  · rw [take_be 0 _ i (by omega), numG_be 0 _ (by omega) (by omega)]; dsimp only
    rw [if_pos rfl, show askG (some 0) 0 = 0 from rfl, authG_cut [] (i - 4) (by simp) (by rw [show (putL []).length = 4 from rfl]; omega)]
    rw [if_neg (by omega)]
theorem whoG_err {f e : Int} (l : List Int) (h : e ≠ 0) : (whoG f l e).1.e = e := by
  unfold whoG
  rw [authG_err l h]; dsimp only
  rw [if_neg h]; rfl
/-- A call whose parts may be. -/
structure CallOk (x p v o f : Int) (m : ByteArray) (s u g : Int) (gs : List Int) : Prop where
  hx : R32 x
  hp : R32 p
  hv : R32 v
  ho : R32 o
  hf : f = 0 ∨ f = 1
  f0 : f = 0 → m = ByteArray.empty ∧ s = 0 ∧ u = 0 ∧ g = 0 ∧ gs = []
  f1 : f = 1 → m.size ≤ 255 ∧ gs.length ≤ 16
  hs : R32 s
  hu : R32 u
  hg : R32 g
  hgs : ∀ n ∈ gs, R32 n
theorem whoL_most {f : Int} {m : ByteArray} {s u g : Int} {gs : List Int} (h1 : f = 1 → m.size ≤ 255 ∧ gs.length ≤ 16) : (whoL f m s u g gs).length ≤ 400 := by
  unfold whoL
  by_cases hf : f = 1
  · rw [if_pos hf]; exact credB_most s m u g gs (h1 hf).1 (h1 hf).2
  · rw [if_neg hf]; simp
theorem whoG_put {x p v o f : Int} {m : ByteArray} {s u g : Int} {gs : List Int} (h : CallOk x p v o f m s u g gs) (rest : List Int) :
    whoG f (putL (whoL f m s u g gs) ++ rest) 0 = (⟨s, m, u, g, gs, 0⟩, rest) := by
  have hm := whoL_most (f := f) (m := m) (s := s) (u := u) (g := g) (gs := gs) h.f1
  unfold whoG
  rw [authG_put _ rest hm]; dsimp only
  rw [if_pos rfl]
  rcases h.hf with hf | hf
  · obtain ⟨rfl, rfl, rfl, rfl, rfl⟩ := h.f0 hf
    subst hf
    rfl
  · subst hf
    rw [if_pos rfl]
    unfold whoL
    rw [if_pos rfl]
    have := cred_read s m u g gs [] h.hs h.hu h.hg h.hgs (h.f1 rfl).1 (h.f1 rfl).2
    rw [List.append_nil, if_pos rfl] at this
    rw [this]
theorem fits_call {x p v o f : Int} (hx : R32 x) (hp : R32 p) (hv : R32 v) (ho : R32 o) (hf : R32 f) : Fits callAsk [x, 0, 2, p, v, o, f] :=
  ⟨hx, rfl, by unfold R32; omega, rfl, by unfold R32; omega, rfl, hp, rfl, hv, rfl, ho, rfl, hf, rfl, trivial⟩
theorem CallOk.fits {x p v o f : Int} {m : ByteArray} {s u g : Int} {gs : List Int} (h : CallOk x p v o f m s u g gs) : Fits callAsk [x, 0, 2, p, v, o, f] :=
  fits_call h.hx h.hp h.hv h.ho (by rcases h.hf with rfl | rfl <;> (unfold R32; omega))
theorem flaG_ok {f : Int} (h : f = 0 ∨ f = 1) : flaG f 0 = 0 := by unfold flaG; rw [if_pos rfl, if_neg (by omega)]
theorem flaG_err {f e : Int} (h : e ≠ 0) : flaG f e = e := by unfold flaG; rw [if_neg h]
theorem callB_app (x p v o f : Int) (m : ByteArray) (s u g : Int) (gs b : List Int) : callB x p v o f m s u g gs ++ b = numsL [x, 0, 2, p, v, o, f] ++ (putL (whoL f m s u g gs) ++ (beL 0 4 ++ (putL [] ++ b))) := by
  unfold callB; simp only [List.append_assoc]
theorem callB_length (x p v o f : Int) (m : ByteArray) (s u g : Int) (gs : List Int) : (callB x p v o f m s u g gs).length = 36 + (putL (whoL f m s u g gs)).length := by
  unfold callB
  simp only [List.length_append, numsL_length, beL_length, putL_length, List.length_cons, List.length_nil]
  have : (padI ((0 : Nat) : Int)).toNat = 0 := by decide
  omega
theorem call_read {x p v o f : Int} {m : ByteArray} {s u g : Int} {gs : List Int} (h : CallOk x p v o f m s u g gs) (b : List Int) :
    callH (callB x p v o f m s u g gs ++ b) = ⟨x, p, v, o, f, m, s, u, g, gs, b, 0⟩ := by
  rw [callB_app]
  unfold callH
  rw [hdS_be _ _ _ h.fits]; dsimp only
  rw [show rd [x, 0, 2, p, v, o, f] 6 = f from rfl, flaG_ok h.hf, whoG_put h]; dsimp only
  rw [sureG_put]; dsimp only
  rw [if_pos rfl]; rfl
theorem callH_err {l : List Int} {e : Int} (he : e ≠ 0) (h : (hdS callAsk l 0).2.2 = e) : callH l = callZ e := by
  unfold callH; dsimp only
  have hw : (whoG (rd (hdS callAsk l 0).1 6) (hdS callAsk l 0).2.1 (flaG (rd (hdS callAsk l 0).1 6) (hdS callAsk l 0).2.2)).1.e = e := by rw [h, flaG_err he, whoG_err _ he]
  rw [sureG_err _ (by rw [hw]; exact he), hw, if_neg he]
theorem call_cut {x p v o f : Int} {m : ByteArray} {s u g : Int} {gs : List Int} (h : CallOk x p v o f m s u g gs) (i : Nat) (hi : i < (callB x p v o f m s u g gs).length) :
    (callH ((callB x p v o f m s u g gs).take i)).e = 4 := by
  have hm := whoL_most (f := f) (m := m) (s := s) (u := u) (g := g) (gs := gs) h.f1
  rw [callB_length] at hi
  have n28 : (numsL [x, 0, 2, p, v, o, f]).length = 28 := by rw [numsL_length]; rfl
  by_cases h1 : i < 28
  · have h2 : (callB x p v o f m s u g gs).take i = (numsL [x, 0, 2, p, v, o, f]).take i := by
      unfold callB; rw [List.take_append_of_le_length (by omega)]
    rw [callH_err (e := 4) (by omega) (by rw [h2]; exact hdS_cut _ _ i h.fits (by simpa using h1))]; rfl
  · obtain ⟨j, hj⟩ : ∃ j, i - 28 = j := ⟨_, rfl⟩
    have h2 : (callB x p v o f m s u g gs).take i = numsL [x, 0, 2, p, v, o, f] ++ (putL (whoL f m s u g gs) ++ (beL 0 4 ++ putL [])).take j := by
      unfold callB; rw [List.take_append, List.take_of_length_le (by omega), n28, hj]
    rw [h2]
    unfold callH
    rw [hdS_be _ _ _ h.fits]; dsimp only
    rw [show rd [x, 0, 2, p, v, o, f] 6 = f from rfl, flaG_ok h.hf]
    by_cases h3 : j < (putL (whoL f m s u g gs)).length
    · rw [List.take_append_of_le_length (by omega)]
      have hw : (whoG f ((putL (whoL f m s u g gs)).take j) 0).1.e = 4 := by
        unfold whoG
        rw [authG_cut _ j hm h3, if_neg (by omega)]; rfl
      rw [sureG_err _ (by rw [hw]; omega), hw, if_neg (by omega)]; rfl
    · rw [List.take_append, List.take_of_length_le (by omega), whoG_put h]; dsimp only
      rw [sureG_cut _ (by omega), if_neg (by omega)]; rfl
theorem fits7 {ns : List Int} (h : Fits callAsk ns) : ∃ x p v o f, ns = [x, 0, 2, p, v, o, f] ∧ R32 x ∧ R32 p ∧ R32 v ∧ R32 o ∧ R32 f := by
  match ns, h with
  | [x, a, b, p, v, o, f], ⟨h1, _, _, h2, _, h3, h4, _, h5, _, h6, _, h7, _, _⟩ =>
    have ha : a = 0 := by unfold askG at h2; dsimp only at h2; by_cases e : a = 0
                          · exact e
                          · rw [if_neg e] at h2; omega
    have hb : b = 2 := by unfold askG at h3; dsimp only at h3; by_cases e : b = 2
                          · exact e
                          · rw [if_neg e] at h3; omega
    exact ⟨x, p, v, o, f, by rw [ha, hb], h1, h4, h5, h6, h7⟩
theorem flaG_inv {f e : Int} (h : flaG f e = 0) : e = 0 ∧ f ≤ 1 := by
  unfold flaG at h
  by_cases he : e = 0
  · rw [if_pos he] at h
    by_cases hf : 1 < f
    · rw [if_pos hf] at h; omega
    · exact ⟨he, by omega⟩
  · rw [if_neg he] at h; exact absurd h he
theorem credR_ranges {l : List Int} (hb : byteOk l = true) : ∃ s m u g gs e, credG l = ⟨s, m, u, g, gs, e⟩ ∧ (e = 0 → l = credB s m u g gs ∧ m.size ≤ 255 ∧ gs.length ≤ 16) := by
  rcases cred_again l hb with ⟨e, he, hc⟩ | ⟨s, m, u, g, gs, hc, h1, h2, h3⟩
  · exact ⟨_, _, _, _, _, _, hc, fun h => absurd h he⟩
  · exact ⟨_, _, _, _, _, _, hc, fun _ => ⟨h1, h2, h3⟩⟩

/-- The errors of what is read. -/
def E4 (e : Int) : Prop := e = 0 ∨ e = 3 ∨ e = 4 ∨ e = 5
theorem numG_E {l : List Int} {e : Int} (h : E4 e) : E4 (numG l e).2.2 := by
  unfold numG
  by_cases he : e = 0
  · rw [if_pos he]; by_cases hl : l.length < 4
    · rw [if_pos hl]; exact .inr (.inr (.inl rfl))
    · rw [if_neg hl]; exact .inl rfl
  · rw [if_neg he]; exact h
theorem oget_E {l : List Int} (most : Int) (hb : byteOk l = true) : ∃ xs n e, opaque_Get.f l most = some (xs, n, e) ∧ E4 e := by
  unfold opaque_Get.f
  rw [if_pos (byteOk_take hb 4)]
  by_cases h4 : l.length < 4
  · rw [if_pos h4]; exact ⟨_, _, _, rfl, .inr (.inr (.inl rfl))⟩
  · rw [if_neg h4]
    by_cases h5 : most < deB (l.take 4)
    · rw [if_pos h5]; exact ⟨_, _, _, rfl, .inr (.inl rfl)⟩
    · rw [if_neg h5]
      by_cases h6 : cutS (l.drop 4) (deB (l.take 4)).toNat = 0
      · rw [if_pos h6]; exact ⟨_, _, _, rfl, .inl rfl⟩
      · rw [if_neg h6]
        refine ⟨_, _, _, rfl, ?_⟩
        rcases cutS_e (l.drop 4) (deB (l.take 4)).toNat with h | h | h
        · exact .inr (.inr (.inl h))
        · exact absurd h h6
        · exact .inr (.inr (.inr h))
theorem strG_E {l : List Int} {e : Int} (hb : byteOk l = true) (h : E4 e) : E4 (strG l e).2.2 := by
  unfold strG
  by_cases he : e = 0
  · rw [if_pos he]
    obtain ⟨xs, n, e2, h2, h3⟩ := oget_E 255 hb
    unfold strings_Get.f
    rw [h2]; exact h3
  · rw [if_neg he]; exact h
theorem grpG_E : ∀ (k : Nat) (gs l : List Int) (e : Int), E4 e → E4 (grpG k gs l e).2.2
  | 0, _, _, _, h => h
  | k + 1, gs, l, e, h => by
    unfold grpG
    by_cases he : e = 0
    · rw [if_pos he]; exact grpG_E k _ _ _ (numG_E h)
    · rw [if_neg he]; exact h
theorem credG_E {l : List Int} (hb : byteOk l = true) : E4 (credG l).e := by
  have hk := numG_E (l := (numG (numG (strG (numG l 0).2.1 (numG l 0).2.2).2.1 (strG (numG l 0).2.1 (numG l 0).2.2).2.2).2.1 (numG (strG (numG l 0).2.1 (numG l 0).2.2).2.1 (strG (numG l 0).2.1 (numG l 0).2.2).2.2).2.2).2.1) (numG_E (l := (numG (strG (numG l 0).2.1 (numG l 0).2.2).2.1 (strG (numG l 0).2.1 (numG l 0).2.2).2.2).2.1) (numG_E (l := (strG (numG l 0).2.1 (numG l 0).2.2).2.1) (strG_E (numG_ok hb 0) (numG_E (l := l) (e := 0) (.inl rfl)))))
  unfold credG; dsimp only
  obtain ⟨k, hk2⟩ : ∃ k, numG (numG (numG (strG (numG l 0).2.1 (numG l 0).2.2).2.1 (strG (numG l 0).2.1 (numG l 0).2.2).2.2).2.1 (numG (strG (numG l 0).2.1 (numG l 0).2.2).2.1 (strG (numG l 0).2.1 (numG l 0).2.2).2.2).2.2).2.1 (numG (numG (strG (numG l 0).2.1 (numG l 0).2.2).2.1 (strG (numG l 0).2.1 (numG l 0).2.2).2.2).2.1 (numG (strG (numG l 0).2.1 (numG l 0).2.2).2.1 (strG (numG l 0).2.1 (numG l 0).2.2).2.2).2.2).2.2 = k := ⟨_, rfl⟩
  rw [hk2] at hk ⊢
  have hl : E4 (limG k.1 k.2.2) := by
    unfold limG
    by_cases h1 : k.2.2 = 0
    · rw [if_pos h1]; by_cases h2 : k.1 > 16
      · rw [if_pos h2]; exact .inr (.inl rfl)
      · rw [if_neg h2]; exact .inl rfl
    · rw [if_neg h1]; exact hk
  have hr := grpG_E k.1.toNat [] k.2.1 _ hl
  obtain ⟨r, hr2⟩ : ∃ r, grpG k.1.toNat [] k.2.1 (limG k.1 k.2.2) = r := ⟨_, rfl⟩
  rw [hr2] at hr ⊢
  have he : E4 (endG r.2.1 r.2.2) := by
    unfold endG
    by_cases h1 : r.2.2 = 0
    · rw [if_pos h1]; by_cases h2 : 0 < r.2.1.length
      · rw [if_pos h2]; exact .inr (.inr (.inr rfl))
      · rw [if_neg h2]; exact .inl rfl
    · rw [if_neg h1]; exact hr
  by_cases hz : endG r.2.1 r.2.2 = 0
  · rw [if_pos hz]; exact .inl rfl
  · rw [if_neg hz]; exact he
theorem grpG_r : ∀ (k : Nat) (gs l : List Int) (e : Int), byteOk l = true → (∀ n ∈ gs, R32 n) → ∀ n ∈ (grpG k gs l e).1, R32 n
  | 0, _, _, _, _, h => h
  | k + 1, gs, l, e, hb, h => by
    unfold grpG
    by_cases he : e = 0
    · rw [if_pos he]
      refine grpG_r k _ _ _ (numG_ok hb e) (fun n hn => ?_)
      rcases List.mem_append.1 hn with hn | hn
      · exact h n hn
      · rw [List.mem_singleton.1 hn]; exact numG_range hb e
    · rw [if_neg he]; exact h
theorem credG_r {l : List Int} (hb : byteOk l = true) : R32 (credG l).s ∧ R32 (credG l).u ∧ R32 (credG l).g ∧ ∀ n ∈ (credG l).gs, R32 n := by
  have z : R32 0 := ⟨by omega, by omega⟩
  have o1 := numG_ok hb 0
  have o2 := strG_ok o1 (numG l 0).2.2
  have o3 := numG_ok o2 (strG (numG l 0).2.1 (numG l 0).2.2).2.2
  obtain ⟨u, hu⟩ : ∃ u, numG (strG (numG l 0).2.1 (numG l 0).2.2).2.1 (strG (numG l 0).2.1 (numG l 0).2.2).2.2 = u := ⟨_, rfl⟩
  have r2 := numG_range o2 (strG (numG l 0).2.1 (numG l 0).2.2).2.2
  rw [hu] at o3 r2
  have o4 := numG_ok o3 u.2.2
  obtain ⟨g, hg⟩ : ∃ g, numG u.2.1 u.2.2 = g := ⟨_, rfl⟩
  have r3 := numG_range o3 u.2.2
  rw [hg] at o4 r3
  have o5 := numG_ok o4 g.2.2
  obtain ⟨k, hk⟩ : ∃ k, numG g.2.1 g.2.2 = k := ⟨_, rfl⟩
  rw [hk] at o5
  unfold credG; dsimp only
  rw [hu, hg, hk]
  by_cases hz : endG (grpG k.1.toNat [] k.2.1 (limG k.1 k.2.2)).2.1 (grpG k.1.toNat [] k.2.1 (limG k.1 k.2.2)).2.2 = 0
  · rw [if_pos hz]
    exact ⟨numG_range hb 0, r2, r3, grpG_r _ _ _ _ o5 (by simp)⟩
  · rw [if_neg hz]
    exact ⟨z, z, z, by simp⟩
theorem whoG_ok {f : Int} {l : List Int} (hb : byteOk l = true) (e : Int) : byteOk (whoG f l e).2 = true := by
  have := (authG_ok hb e).2
  unfold whoG
  by_cases h : (authG l e).2.2 = 0
  · rw [if_pos h]; by_cases hf : f = 1
    · rw [if_pos hf]; exact this
    · rw [if_neg hf]; exact this
  · rw [if_neg h]; exact this
theorem whoG_inv {f e0 : Int} {l : List Int} (hb : byteOk l = true) (hf : f = 0 ∨ f = 1) (h : (whoG f l e0).1.e = 0) :
    ∃ m s u g gs l', whoG f l e0 = (⟨s, m, u, g, gs, 0⟩, l') ∧ e0 = 0 ∧ l = putL (whoL f m s u g gs) ++ l' ∧ (f = 0 → m = ByteArray.empty ∧ s = 0 ∧ u = 0 ∧ g = 0 ∧ gs = []) ∧ (f = 1 → m.size ≤ 255 ∧ gs.length ≤ 16) ∧ R32 s ∧ R32 u ∧ R32 g ∧ (∀ n ∈ gs, R32 n) := by
  have z : R32 0 := ⟨by omega, by omega⟩
  have hoa := (authG_ok hb e0).1
  by_cases ha : (authG l e0).2.2 = 0
  · obtain ⟨h1, h2, h3⟩ := authG_inv hb ha
    rcases hf with hf | hf
    · subst hf
      have hw : whoG 0 l e0 = (credZ (if (authG l e0).1 = [] then 0 else 5), (authG l e0).2.1) := by unfold whoG; rw [if_pos ha, if_neg (by omega)]
      rw [hw] at h ⊢
      by_cases hn : (authG l e0).1 = []
      · rw [if_pos hn]
        refine ⟨_, _, _, _, _, _, rfl, h1, ?_, fun _ => ⟨rfl, rfl, rfl, rfl, rfl⟩, fun h => by omega, z, z, z, by simp⟩
        rw [hn] at h2; exact h2
      · rw [if_neg hn] at h; exact absurd h (by show (5 : Int) ≠ 0; omega)
    · subst hf
      have hw : whoG 1 l e0 = (credG (authG l e0).1, (authG l e0).2.1) := by unfold whoG; rw [if_pos ha, if_pos rfl]
      rw [hw] at h ⊢
      have hr := credG_r hoa
      rcases cred_again (authG l e0).1 hoa with ⟨e, he, hc⟩ | ⟨s, m, u, g, gs, hc, k1, k2, k3⟩
      · rw [hc] at h; exact absurd h he
      · rw [hc] at hr ⊢
        refine ⟨m, s, u, g, gs, _, rfl, h1, ?_, fun h => by omega, fun _ => ⟨k2, k3⟩, hr.1, hr.2.1, hr.2.2.1, hr.2.2.2⟩
        unfold whoL
        rw [if_pos rfl, ← k1]; exact h2
  · unfold whoG at h; rw [if_neg ha] at h; exact absurd h ha
theorem mustE_inv {n e : Int} {l : List Int} (hb : byteOk l = true) (h : mustE n l e = 0) : e = 0 ∧ l = beL n 4 ++ (numG l e).2.1 := by
  unfold mustE at h
  by_cases h0 : (numG l e).2.2 = 0
  · rw [if_pos h0] at h
    obtain ⟨h1, h2⟩ := numG_inv hb (x := (numG l e).1) (l' := (numG l e).2.1) (e0 := e) (Prod.ext rfl (Prod.ext rfl h0))
    unfold askG at h
    dsimp only at h
    by_cases h3 : (numG l e).1 = n
    · rw [h3] at h2; exact ⟨h1, h2⟩
    · rw [if_neg h3] at h; omega
  · rw [if_neg h0] at h; exact absurd h h0
theorem sureG_inv {e : Int} {l : List Int} (hb : byteOk l = true) (h : (sureG l e).2 = 0) : e = 0 ∧ l = beL 0 4 ++ (putL [] ++ (sureG l e).1) ∧ byteOk (sureG l e).1 = true := by
  have ho := numG_ok hb e
  have hoa := (authG_ok ho (mustE 0 l e)).2
  unfold sureG at h ⊢
  by_cases h0 : (authG (numG l e).2.1 (mustE 0 l e)).2.2 = 0
  · dsimp only at h ⊢
    rw [if_pos h0] at h
    by_cases h1 : (authG (numG l e).2.1 (mustE 0 l e)).1 = []
    · obtain ⟨k1, k2, _⟩ := authG_inv ho h0
      obtain ⟨k3, k4⟩ := mustE_inv hb k1
      refine ⟨k3, ?_, hoa⟩
      rw [h1] at k2
      conv => lhs; rw [k4, k2]
    · rw [if_neg h1] at h; omega
  · dsimp only at h; rw [if_neg h0] at h; exact absurd h h0
theorem call_inv {l : List Int} (hb : byteOk l = true) (h : (callH l).e = 0) :
    ∃ x p v o f m s u g gs b, callH l = ⟨x, p, v, o, f, m, s, u, g, gs, b, 0⟩ ∧ CallOk x p v o f m s u g gs ∧ l = callB x p v o f m s u g gs ++ b ∧ byteOk b = true := by
  have ho := hdS_ok callAsk l 0 hb
  obtain ⟨ns, l1, e1, h1⟩ : ∃ ns l1 e1, hdS callAsk l 0 = (ns, l1, e1) := ⟨_, _, _, rfl⟩
  have hC : callH l = (if (sureG (whoG (rd ns 6) l1 (flaG (rd ns 6) e1)).2 (whoG (rd ns 6) l1 (flaG (rd ns 6) e1)).1.e).2 = 0 then (⟨rd ns 0, rd ns 3, rd ns 4, rd ns 5, rd ns 6, (whoG (rd ns 6) l1 (flaG (rd ns 6) e1)).1.m, (whoG (rd ns 6) l1 (flaG (rd ns 6) e1)).1.s, (whoG (rd ns 6) l1 (flaG (rd ns 6) e1)).1.u, (whoG (rd ns 6) l1 (flaG (rd ns 6) e1)).1.g, (whoG (rd ns 6) l1 (flaG (rd ns 6) e1)).1.gs, (sureG (whoG (rd ns 6) l1 (flaG (rd ns 6) e1)).2 (whoG (rd ns 6) l1 (flaG (rd ns 6) e1)).1.e).1, 0⟩ : CallR) else callZ (sureG (whoG (rd ns 6) l1 (flaG (rd ns 6) e1)).2 (whoG (rd ns 6) l1 (flaG (rd ns 6) e1)).1.e).2) := by
    unfold callH; rw [h1]
  rw [h1] at ho
  dsimp only at ho
  by_cases h2 : (sureG (whoG (rd ns 6) l1 (flaG (rd ns 6) e1)).2 (whoG (rd ns 6) l1 (flaG (rd ns 6) e1)).1.e).2 = 0
  · rw [if_pos h2] at hC
    obtain ⟨k1, k2, k3⟩ := sureG_inv (whoG_ok ho _) h2
    have hfl : flaG (rd ns 6) e1 = 0 ∧ e1 = 0 := by
      by_cases hz : flaG (rd ns 6) e1 = 0
      · exact ⟨hz, (flaG_inv hz).1⟩
      · rw [whoG_err _ hz] at k1; exact absurd k1 hz
    obtain ⟨k4, rfl⟩ := hfl
    obtain ⟨k5, k6⟩ := hdS_inv callAsk l ns l1 hb h1
    obtain ⟨x, p, v, o, f, rfl, r1, r2, r3, r4, r5⟩ := fits7 k5
    have hf : f = 0 ∨ f = 1 := by have := (flaG_inv k4).2; have : f ≤ 1 := this; have := r5.1; omega
    obtain ⟨m, s, u, g, gs, l', k7, _, k8, k9, k10, k11, k12, k13, k14⟩ := whoG_inv (f := f) ho hf k1
    rw [show rd [x, 0, 2, p, v, o, f] 6 = f from rfl] at hC k2 k3 k7
    rw [k7] at hC k2 k3
    refine ⟨_, _, _, _, _, _, _, _, _, _, _, hC, ⟨r1, r2, r3, r4, hf, k9, k10, k11, k12, k13, k14⟩, ?_, k3⟩
    dsimp only at k2 ⊢
    rw [callB_app]
    conv => lhs; rw [k6, k8, k2]
    rfl
  · rw [if_neg h2] at hC
    rw [hC] at h; exact absurd h h2
theorem callH_E {l : List Int} (hb : byteOk l = true) : E4 (callH l).e ∧ ((callH l).e ≠ 0 → callH l = callZ (callH l).e) := by
  have ho := hdS_ok callAsk l 0 hb
  obtain ⟨ns, l1, e1, h1⟩ : ∃ ns l1 e1, hdS callAsk l 0 = (ns, l1, e1) := ⟨_, _, _, rfl⟩
  obtain ⟨w, hw⟩ : ∃ w, whoG (rd ns 6) l1 (flaG (rd ns 6) e1) = w := ⟨_, rfl⟩
  have hC : callH l = (if (sureG w.2 w.1.e).2 = 0 then (⟨rd ns 0, rd ns 3, rd ns 4, rd ns 5, rd ns 6, w.1.m, w.1.s, w.1.u, w.1.g, w.1.gs, (sureG w.2 w.1.e).1, 0⟩ : CallR) else callZ (sureG w.2 w.1.e).2) := by
    unfold callH; rw [h1]; dsimp only; rw [hw]
  have he1 := hdS_e callAsk l
  rw [h1] at he1 ho
  dsimp only at he1 ho
  have hf1 : E4 (flaG (rd ns 6) e1) := by
    unfold flaG
    by_cases h : e1 = 0
    · rw [if_pos h]; by_cases k : 1 < rd ns 6
      · rw [if_pos k]; exact .inr (.inr (.inr rfl))
      · rw [if_neg k]; exact .inl rfl
    · rw [if_neg h]
      rcases he1 with h | h | h
      · exact .inl h
      · exact .inr (.inr (.inl h))
      · exact .inr (.inr (.inr h))
  have hAE : ∀ (l : List Int) (e : Int), byteOk l = true → E4 e → E4 (authG l e).2.2 := by
    intro l e hb he
    by_cases hz : e = 0
    · subst hz
      rcases authG_e hb with h | h | h | h
      · exact .inl h
      · exact .inr (.inl h)
      · exact .inr (.inr (.inl h))
      · exact .inr (.inr (.inr h))
    · rw [authG_err l hz]; exact he
  have hw2 : E4 w.1.e := by
    rw [← hw]
    unfold whoG
    by_cases h : (authG l1 (flaG (rd ns 6) e1)).2.2 = 0
    · rw [if_pos h]
      by_cases k : rd ns 6 = 1
      · rw [if_pos k]; exact credG_E (authG_ok ho _).1
      · rw [if_neg k]
        by_cases q : (authG l1 (flaG (rd ns 6) e1)).1 = []
        · rw [if_pos q]; exact .inl rfl
        · rw [if_neg q]; exact .inr (.inr (.inr rfl))
    · rw [if_neg h]; exact hAE _ _ ho hf1
  have ho2 : byteOk w.2 = true := by rw [← hw]; exact whoG_ok ho _
  have hs : E4 (sureG w.2 w.1.e).2 := by
    have hm : E4 (mustE 0 w.2 w.1.e) := by
      unfold mustE
      by_cases h : (numG w.2 w.1.e).2.2 = 0
      · rw [if_pos h]
        rcases askG_cases (some 0) (numG w.2 w.1.e).1 with k | k
        · exact .inl k
        · exact .inr (.inr (.inr k))
      · rw [if_neg h]; exact numG_E hw2
    unfold sureG
    dsimp only
    by_cases h : (authG (numG w.2 w.1.e).2.1 (mustE 0 w.2 w.1.e)).2.2 = 0
    · rw [if_pos h]
      by_cases k : (authG (numG w.2 w.1.e).2.1 (mustE 0 w.2 w.1.e)).1 = []
      · rw [if_pos k]; exact .inl rfl
      · rw [if_neg k]; exact .inr (.inr (.inr rfl))
    · rw [if_neg h]; exact hAE _ _ (numG_ok ho2 _) hm
  by_cases hz : (sureG w.2 w.1.e).2 = 0
  · rw [if_pos hz] at hC
    rw [hC]; exact ⟨.inl rfl, fun h => absurd rfl h⟩
  · rw [if_neg hz] at hC
    rw [hC]; exact ⟨hs, fun _ => rfl⟩

/-- Block C is a call. -/
def Call11 (w : World) (C : Nat) (x p v o f : Int) (m : ByteArray) (s u g : Int) (Vg Vb : Value) : Prop := w.heap[C]? = some (.cells #[.int .u32 x, .int .u32 p, .int .u32 v, .int .u32 o, .int .u32 f, .string m, .int .u32 s, .int .u32 u, .int .u32 g, Vg, Vb] 28 (0, 0))
section
variable {w w1 : World} {C : Nat} {x p v o f : Int} {m : ByteArray} {s u g : Int} {Vg Vb : Value}
theorem Call11.lt (h : Call11 w C x p v o f m s u g Vg Vb) : C < w.heap.size := (Array.getElem?_eq_some_iff.1 h).1
theorem Call11.fz (h : Call11 w C x p v o f m s u g Vg Vb) (i : Nat) : w.frozen? ⟨C, i, none⟩ = false := by simp [World.frozen?, show w.heap[C]? = _ from h]
theorem Call11.below (h : Call11 w C x p v o f m s u g Vg Vb) (hb : Below w.heap.size w w1) : Call11 w1 C x p v o f m s u g Vg Vb := (hb.block _ h.lt).trans h
theorem call11_new (W : World) (x p v o f : Int) (m : ByteArray) (s u g : Int) (Vg Vb : Value) : Call11 (W.alloc (.cells #[.int .u32 x, .int .u32 p, .int .u32 v, .int .u32 o, .int .u32 f, .string m, .int .u32 s, .int .u32 u, .int .u32 g, Vg, Vb] 28)) W.heap.size x p v o f m s u g Vg Vb := World.alloc_heap_new W _
theorem Call11.c0 (h : Call11 w C x p v o f m s u g Vg Vb) : w.cell? ⟨C, 0, none⟩ = some (.int .u32 x) := by simp [World.cell?, show w.heap[C]? = _ from h]
theorem Call11.c1 (h : Call11 w C x p v o f m s u g Vg Vb) : w.cell? ⟨C, 1, none⟩ = some (.int .u32 p) := by simp [World.cell?, show w.heap[C]? = _ from h]
theorem Call11.c2 (h : Call11 w C x p v o f m s u g Vg Vb) : w.cell? ⟨C, 2, none⟩ = some (.int .u32 v) := by simp [World.cell?, show w.heap[C]? = _ from h]
theorem Call11.c3 (h : Call11 w C x p v o f m s u g Vg Vb) : w.cell? ⟨C, 3, none⟩ = some (.int .u32 o) := by simp [World.cell?, show w.heap[C]? = _ from h]
theorem Call11.c4 (h : Call11 w C x p v o f m s u g Vg Vb) : w.cell? ⟨C, 4, none⟩ = some (.int .u32 f) := by simp [World.cell?, show w.heap[C]? = _ from h]
theorem Call11.c5 (h : Call11 w C x p v o f m s u g Vg Vb) : w.cell? ⟨C, 5, none⟩ = some (.string m) := by simp [World.cell?, show w.heap[C]? = _ from h]
theorem Call11.c6 (h : Call11 w C x p v o f m s u g Vg Vb) : w.cell? ⟨C, 6, none⟩ = some (.int .u32 s) := by simp [World.cell?, show w.heap[C]? = _ from h]
theorem Call11.c7 (h : Call11 w C x p v o f m s u g Vg Vb) : w.cell? ⟨C, 7, none⟩ = some (.int .u32 u) := by simp [World.cell?, show w.heap[C]? = _ from h]
theorem Call11.c8 (h : Call11 w C x p v o f m s u g Vg Vb) : w.cell? ⟨C, 8, none⟩ = some (.int .u32 g) := by simp [World.cell?, show w.heap[C]? = _ from h]
theorem Call11.c9 (h : Call11 w C x p v o f m s u g Vg Vb) : w.cell? ⟨C, 9, none⟩ = some (Vg) := by simp [World.cell?, show w.heap[C]? = _ from h]
theorem Call11.c10 (h : Call11 w C x p v o f m s u g Vg Vb) : w.cell? ⟨C, 10, none⟩ = some (Vb) := by simp [World.cell?, show w.heap[C]? = _ from h]
end

theorem toldE (m : ByteArray) : m.toList.isEmpty = (m.size == 0) := by
  rw [ByteArray.toList_eq]
  have h : m.data.toList.length = m.size := by rw [Array.length_toList]; rfl
  cases hl : m.data.toList with
  | nil => rw [hl] at h; have : m.size = 0 := by simpa using h.symm
           rw [this]; rfl
  | cons a l => rw [hl] at h; have : m.size ≠ 0 := by simp at h; omega
                rw [beq_eq_false_iff_ne.mpr this]; rfl
theorem or_r32 (a b : Int) (ha : R32 a) (hb : R32 b) : R32 (bits .or .u32 a b) ∧ (bits .or .u32 a b = 0 ↔ a = 0 ∧ b = 0) := by
  obtain ⟨a, rfl⟩ := Int.eq_ofNat_of_zero_le ha.1
  obtain ⟨b, rfl⟩ := Int.eq_ofNat_of_zero_le hb.1
  have ha2 := ha.2
  have hb2 := hb.2
  have e : bits .or .u32 (a : Int) (b : Int) = ((a ||| b : Nat) : Int) := by
    show IntKind.u32.wrap ((BitVec.ofInt 32 (a : Int) ||| BitVec.ofInt 32 (b : Int)).toNat : Int) = _
    rw [BitVec.toNat_or, ofInt_u32 a (by omega), ofInt_u32 b (by omega), IntKind.wrap_u32]
    have : a ||| b < 2 ^ 32 := Nat.or_lt_two_pow (by omega) (by omega)
    omega
  have hlt : a ||| b < 2 ^ 32 := Nat.or_lt_two_pow (by omega) (by omega)
  rw [e]
  refine ⟨⟨by omega, by omega⟩, ?_⟩
  have h0 : (a ||| b = 0) ↔ a = 0 ∧ b = 0 := Nat.or_eq_zero_iff
  constructor
  · intro h
    have := h0.1 (by omega)
    omega
  · intro h
    have := h0.2 (by omega)
    omega
theorem or3 (s u g : Int) (hs : R32 s) (hu : R32 u) (hg : R32 g) : (bits .or .u32 (bits .or .u32 s u) g != 0) = (!(s == 0) || !(u == 0) || !(g == 0)) := by
  have h1 := or_r32 s u hs hu
  have h2 := or_r32 _ g h1.1 hg
  by_cases h : bits .or .u32 (bits .or .u32 s u) g = 0
  · have h3 := h2.2.1 h
    have h4 := h1.2.1 h3.1
    rw [h, h4.1, h4.2, h3.2]; rfl
  · have h3 : ¬ (s = 0 ∧ u = 0 ∧ g = 0) := fun k => h (h2.2.2 ⟨h1.2.2 ⟨k.1, k.2.1⟩, k.2.2⟩)
    rw [show (bits .or .u32 (bits .or .u32 s u) g != 0) = true from bne_iff_ne.mpr h]
    by_cases hs : s = 0
    · by_cases hu : u = 0
      · have hg : g ≠ 0 := fun e => h3 ⟨hs, hu, e⟩
        rw [beq_eq_false_iff_ne.mpr hg]; simp
      · rw [beq_eq_false_iff_ne.mpr hu]; simp
    · rw [beq_eq_false_iff_ne.mpr hs]; simp
def calls_Put.f (x p v o f : Int) (m : ByteArray) (s u g : Int) (gs body : List Int) : Option (List Int × Int) :=
  if (R32 s ∧ R32 u ∧ R32 g ∧ 0 ≤ f) ∧ m.size ≤ 140737488351232 ∧ gs.length ≤ 140737488351232 ∧ body.length ≤ 140737488351232 then
    some (if 1 < f ∨ (f = 0 ∧ toldB m s u g gs = true) then ([], 1) else if f = 1 ∧ (255 < m.size ∨ 16 < gs.length) then ([], 1)
      else if 65536 < (callB x p v o f m s u g gs ++ body).length then ([], 3) else (callB x p v o f m s u g gs ++ body, 0)) else none
theorem five_rows (w : World) (A0 : Option Addr) (c0 : Nat) (x0 : List Int) (A1 : Option Addr) (c1 : Nat) (x1 : List Int) (A2 : Option Addr) (c2 : Nat) (x2 : List Int) (A3 : Option Addr) (c3 : Nat) (x3 : List Int) (A4 : Option Addr) (c4 : Nat) (x4 : List Int) (h0 : RB w A0 x0) (k0 : x0.length ≤ c0) (h1 : RB w A1 x1) (k1 : x1.length ≤ c1) (h2 : RB w A2 x2) (k2 : x2.length ≤ c2) (h3 : RB w A3 x3) (k3 : x3.length ≤ c3) (h4 : RB w A4 x4) (k4 : x4.length ≤ c4) :
    RBs (w.alloc (.cells #[.slice A0 x0.length c0, .slice A1 x1.length c1, .slice A2 x2.length c2, .slice A3 x3.length c3, .slice A4 x4.length c4] 26)) (some ⟨w.heap.size, 0, none⟩) [x0, x1, x2, x3, x4] := by
  refine ⟨rfl, by simp, fun _ => ⟨_, rfl, fun j p hj => ?_⟩⟩
  have hb : ∀ i, (w.alloc (.cells #[.slice A0 x0.length c0, .slice A1 x1.length c1, .slice A2 x2.length c2, .slice A3 x3.length c3, .slice A4 x4.length c4] 26)).cell? ⟨w.heap.size, i, none⟩ = (#[Value.slice A0 x0.length c0, .slice A1 x1.length c1, .slice A2 x2.length c2, .slice A3 x3.length c3, .slice A4 x4.length c4] : Array Value)[i]? := fun i => blk_cell (heap_alloc_new w _) i
  match j, hj with
  | 0, hj =>
    obtain rfl : x0 = p := by simpa using hj
    refine ⟨[.slice A0 x0.length c0], rfl, ⟨A0, c0, rfl, k0, Kd.C_alloc h0 _⟩, fun i u hu => ?_⟩
    match i, hu with
    | 0, hu => rw [show 0 * (Kd.slice 5 (Kd.int .u8)).sz + 0 = 0 from rfl, add_plain, hb]; simpa using hu
  | 1, hj =>
    obtain rfl : x1 = p := by simpa using hj
    refine ⟨[.slice A1 x1.length c1], rfl, ⟨A1, c1, rfl, k1, Kd.C_alloc h1 _⟩, fun i u hu => ?_⟩
    match i, hu with
    | 0, hu => rw [show 1 * (Kd.slice 5 (Kd.int .u8)).sz + 0 = 1 from rfl, add_plain, hb]; simpa using hu
  | 2, hj =>
    obtain rfl : x2 = p := by simpa using hj
    refine ⟨[.slice A2 x2.length c2], rfl, ⟨A2, c2, rfl, k2, Kd.C_alloc h2 _⟩, fun i u hu => ?_⟩
    match i, hu with
    | 0, hu => rw [show 2 * (Kd.slice 5 (Kd.int .u8)).sz + 0 = 2 from rfl, add_plain, hb]; simpa using hu
  | 3, hj =>
    obtain rfl : x3 = p := by simpa using hj
    refine ⟨[.slice A3 x3.length c3], rfl, ⟨A3, c3, rfl, k3, Kd.C_alloc h3 _⟩, fun i u hu => ?_⟩
    match i, hu with
    | 0, hu => rw [show 3 * (Kd.slice 5 (Kd.int .u8)).sz + 0 = 3 from rfl, add_plain, hb]; simpa using hu
  | 4, hj =>
    obtain rfl : x4 = p := by simpa using hj
    refine ⟨[.slice A4 x4.length c4], rfl, ⟨A4, c4, rfl, k4, Kd.C_alloc h4 _⟩, fun i u hu => ?_⟩
    match i, hu with
    | 0, hu => rw [show 4 * (Kd.slice 5 (Kd.int .u8)).sz + 0 = 4 from rfl, add_plain, hb]; simpa using hu

/-- What is carried through calls.Put. -/
structure PS (w0 w : World) (x p v o f : Int) (m : ByteArray) (s u g : Int) (Ag : Option Addr) (cg : Nat) (gs : List Int) (Ab : Option Addr) (cb : Nat) (body : List Int) (Aw : Option Addr) (wl : List Int) : Prop where
  b : Below w0.heap.size w0 w
  blk : Call11 w w0.heap.size x p v o f m s u g (.slice Ag gs.length cg) (.slice Ab body.length cb)
  body : RB w Ab body
  who : RB w Aw wl
section
variable {w0 w w1 : World} {x p v o f : Int} {m : ByteArray} {s u g : Int} {Ag : Option Addr} {cg : Nat} {gs : List Int} {Ab : Option Addr} {cb : Nat} {body : List Int} {Aw : Option Addr} {wl : List Int}
theorem PS.step (h : PS w0 w x p v o f m s u g Ag cg gs Ab cb body Aw wl) (hb : Below w.heap.size w w1) : PS w0 w1 x p v o f m s u g Ag cg gs Ab cb body Aw wl :=
  ⟨below_then h.b h.b.size hb, h.blk.below hb, Kd.C_below h.body hb, Kd.C_below h.who hb⟩
end
theorem opaque_Put_nil (w : World) : Calls Tryd.prog 23 #[.slice none 0 0] w fun e w' => ∃ v0_ : Value, e = .returned (v0_) ∧ Kd.R (Kd.int .u8) 5 w' w.heap.size (fun _ => True) v0_ (putL []) ∧ Below w.heap.size w w' :=
  opaque_Put.calls none 0 [] (putL []) w (Kd.C_nil _ _) (Nat.le_refl _) (put_f [] (by simp))


/-! ### The reader of a call: its bytes, and the call as far as it was read -/
/-- Block C is a reader. -/
def Rd (w : World) (C : Nat) (a : Array Value) : Prop := w.heap[C]? = some (.cells a 62 (0, 0))
section
variable {w w1 : World} {C : Nat} {a : Array Value}
theorem Rd.lt (h : Rd w C a) : C < w.heap.size := (Array.getElem?_eq_some_iff.1 h).1
theorem Rd.cell (h : Rd w C a) (i : Nat) : w.cell? ⟨C, i, none⟩ = a[i]? := by simp [World.cell?, show w.heap[C]? = _ from h]
theorem Rd.fz (h : Rd w C a) (i : Nat) : w.frozen? ⟨C, i, none⟩ = false := by simp [World.frozen?, show w.heap[C]? = _ from h]
theorem Rd.below (h : Rd w C a) (hb : Below w.heap.size w w1) : Rd w1 C a := (hb.block _ h.lt).trans h
theorem Rd.drewN (h : Rd w C a) (n : Nat) : Rd (w.drewN n) C a := h
theorem Rd.set (h : Rd w C a) (i : Nat) (x : Value) : Rd (w.setCell ⟨C, i, none⟩ x) C (a.setIfInBounds i x) := by
  obtain ⟨hlt, hk⟩ := Array.getElem?_eq_some_iff.1 h
  show (w.heap.modify C _)[C]? = _
  rw [Array.getElem?_eq_getElem (by rw [Array.size_modify]; exact hlt), Array.getElem_modify_self, hk]
  rfl
theorem Rd.other (h : Rd w C a) {D : Nat} (hne : C ≠ D) (i : Nat) (x : Value) : Rd (w.setCell ⟨D, i, none⟩ x) C a :=
  (Below.heap_setCell _ _ _ _ (by simpa using hne)).trans h
end
/-- All blocks but one are kept. -/
def Kept1 (w w' : World) (C : Nat) : Prop := w.heap.size ≤ w'.heap.size ∧ ∀ k, k < w.heap.size → k ≠ C → w'.heap[k]? = w.heap[k]?
theorem Kept1.refl (w : World) (C : Nat) : Kept1 w w C := ⟨Nat.le_refl _, fun _ _ _ => rfl⟩
theorem Kept1.trans {w w1 w2 : World} {C : Nat} (h : Kept1 w w1 C) (h2 : Kept1 w1 w2 C) : Kept1 w w2 C :=
  ⟨Nat.le_trans h.1 h2.1, fun k hk a => (h2.2 k (Nat.lt_of_lt_of_le hk h.1) a).trans (h.2 k hk a)⟩
theorem Kept1.set {w w' : World} {C : Nat} (h : Kept1 w w' C) (i : Nat) (v : Value) : Kept1 w (w'.setCell ⟨C, i, none⟩ v) C :=
  ⟨by rw [World.setCell]; simpa using h.1, fun k hk a => (Below.heap_setCell _ _ _ _ (by simpa using a)).trans (h.2 k hk a)⟩
theorem Kept1.setNew {w w' : World} {C D : Nat} (h : Kept1 w w' C) (hD : w.heap.size ≤ D) (i : Nat) (v : Value) : Kept1 w (w'.setCell ⟨D, i, none⟩ v) C :=
  ⟨by rw [World.setCell]; simpa using h.1, fun k hk a => (Below.heap_setCell _ _ _ _ (by show k ≠ D; omega)).trans (h.2 k hk a)⟩
theorem Kept1.drewN {w w' : World} {C : Nat} (h : Kept1 w w' C) (n : Nat) : Kept1 w (w'.drewN n) C := ⟨h.1, h.2⟩
theorem Kept1.below {w w1 w2 : World} {C : Nat} (h : Kept1 w w1 C) (hb : Below w1.heap.size w1 w2) : Kept1 w w2 C :=
  ⟨Nat.le_trans h.1 hb.size, fun k hk a => (hb.block k (Nat.lt_of_lt_of_le hk h.1)).trans (h.2 k hk a)⟩
theorem Kept1.box {w w' : World} {C k : Nat} {t : TypeId} {v : Value} (h : Kept1 w w' C) (hb : Boxed w k t v) (a : k ≠ C) : Boxed w' k t v := (h.2 k hb.lt a).trans hb
/-- Where the reader stands: the bytes that are left, and its other cells. -/
structure RS (h0 : Nat) (w0 w : World) (C : Nat) (l : List Int) (a : Array Value) : Prop where
  got : ∃ A c, Rd w C (a.setIfInBounds 0 (.slice A l.length c)) ∧ l.length ≤ c ∧ ∀ W, Below h0 w0 W → RB W A l
  size : a.size = 12
  low : h0 ≤ C
  bel : Below h0 w0 w
theorem RS.lt {h0 : Nat} {w0 w : World} {C : Nat} {l : List Int} {a : Array Value} (h : RS h0 w0 w C l a) : C < w.heap.size := by
  obtain ⟨A, c, h1, _⟩ := h.got; exact h1.lt
theorem RS.kept {h0 : Nat} {w0 w w1 : World} {C : Nat} {l : List Int} {a : Array Value} (h : RS h0 w0 w C l a) (hb : Below w.heap.size w w1) : RS h0 w0 w1 C l a := by
  obtain ⟨A, c, h1, h2, h3⟩ := h.got
  exact ⟨⟨A, c, h1.below hb, h2, h3⟩, h.size, h.low, below_then h.bel (Nat.le_of_lt (Nat.lt_of_le_of_lt h.low h1.lt)) hb⟩
theorem RS.drewN {h0 : Nat} {w0 w : World} {C : Nat} {l : List Int} {a : Array Value} (h : RS h0 w0 w C l a) (n : Nat) : RS h0 w0 (w.drewN n) C l a :=
  ⟨h.got, h.size, h.low, pw_below_drewN h.bel n⟩
theorem set_comm0 (a : Array Value) (k : Nat) (hk : k ≠ 0) (x y : Value) : (a.setIfInBounds 0 x).setIfInBounds k y = (a.setIfInBounds k y).setIfInBounds 0 x :=
  Array.setIfInBounds_comm x y (Ne.symm hk)
theorem RS.setF {h0 : Nat} {w0 w : World} {C : Nat} {l : List Int} {a : Array Value} (h : RS h0 w0 w C l a) (k : Nat) (hk : k ≠ 0) (x : Value) : RS h0 w0 (w.setCell ⟨C, k, none⟩ x) C l (a.setIfInBounds k x) := by
  obtain ⟨A, c, h1, h2, h3⟩ := h.got
  exact ⟨⟨A, c, by have := h1.set k x; rwa [set_comm0 a k hk] at this, h2, h3⟩, by rw [Array.size_setIfInBounds]; exact h.size, h.low, h.bel.setCell (p := ⟨C, k, none⟩) h.low _⟩
theorem RS.setO {h0 : Nat} {w0 w : World} {C D : Nat} {l : List Int} {a : Array Value} (h : RS h0 w0 w C l a) (hD : C < D) (i : Nat) (x : Value) : RS h0 w0 (w.setCell ⟨D, i, none⟩ x) C l a := by
  obtain ⟨A, c, h1, h2, h3⟩ := h.got
  exact ⟨⟨A, c, h1.other (by omega) i x, h2, h3⟩, h.size, h.low, h.bel.setCell (p := ⟨D, i, none⟩) (by have := h.low; show h0 ≤ D; omega) _⟩
theorem RS.setB {h0 : Nat} {w0 w : World} {C : Nat} {l l' : List Int} {a : Array Value} (h : RS h0 w0 w C l a) (A : Option Addr) (c n : Nat) (hn : n = l'.length) (hc : l'.length ≤ c) (hr : ∀ W, Below h0 w0 W → RB W A l') : RS h0 w0 (w.setCell ⟨C, 0, none⟩ (.slice A n c)) C l' a := by
  subst hn
  obtain ⟨A1, c1, h1, h2, h3⟩ := h.got
  refine ⟨⟨A, c, ?_, hc, hr⟩, h.size, h.low, h.bel.setCell (p := ⟨C, 0, none⟩) h.low _⟩
  have := h1.set 0 (.slice A l'.length c)
  rwa [Array.setIfInBounds_setIfInBounds] at this
theorem RS.cell {h0 : Nat} {w0 w : World} {C : Nat} {l : List Int} {a : Array Value} (h : RS h0 w0 w C l a) (k : Nat) (hk : k ≠ 0) : w.cell? ⟨C, k, none⟩ = a[k]? := by
  obtain ⟨A, c, h1, _⟩ := h.got
  rw [h1.cell, Array.getElem?_setIfInBounds_ne (Ne.symm hk)]
theorem RS.fz {h0 : Nat} {w0 w : World} {C : Nat} {l : List Int} {a : Array Value} (h : RS h0 w0 w C l a) (k : Nat) : w.frozen? ⟨C, k, none⟩ = false := by
  obtain ⟨A, c, h1, _⟩ := h.got; exact h1.fz k
theorem cell0 {w : World} {C : Nat} {a : Array Value} {v : Value} (h : Rd w C (a.setIfInBounds 0 v)) (hs : a.size = 12) : w.cell? ⟨C, 0, none⟩ = some v := by
  rw [h.cell, Array.getElem?_setIfInBounds_self_of_lt (by omega)]
set_option maxHeartbeats 2000000 in
theorem rnumber_calls (h0 : Nat) (w0 w : World) (C D k : Nat) (l : List Int) (a : Array Value) (v : Value) (hS : RS h0 w0 w C l a) (hok : byteOk (l.take 4) = true) (hv : w.cell? ⟨D, k, none⟩ = some v) (hz : w.frozen? ⟨D, k, none⟩ = false) (hne : D ≠ C ∨ k ≠ 0) :
    Calls Tryd.prog 84 #[.pointer (some ⟨C, 0, none⟩), .pointer (some ⟨D, k, none⟩)] w fun x w' => x = .returned (.int .i64 (numG l 0).2.2) ∧
      ∃ nd, (l.length < 4 ∧ w' = (w.drewN nd).setCell ⟨D, k, none⟩ (.int .u32 0)) ∨ (4 ≤ l.length ∧ ∃ A' c', l.length - 4 ≤ c' ∧ (∀ W, Below h0 w0 W → RB W A' (l.drop 4)) ∧ w' = ((w.drewN nd).setCell ⟨D, k, none⟩ (.int .u32 (deB (l.take 4)))).setCell ⟨C, 0, none⟩ (.slice A' (l.length - 4) c')) := by
  obtain ⟨A, c, hB, hc, hR⟩ := hS.got
  have c1 := cell0 hB hS.size
  have z1 := hB.fz 0
  have HB := Aside0.mk (hR w hS.bel)
  have HR := Aside0.mk hR
  have HC := Aside0.mk hc
  have HV := Aside0.mk hv
  have HZ := Aside0.mk hz
  have HRD := Aside0.mk hB
  have HSZ := Aside0.mk hS.size
  have HNE := Aside0.mk hne
  clear hB hc hR hv hz
  by_cases hl : l.length < 4
  · have e1 : numG l 0 = (0, l, 4) := by unfold numG; rw [if_pos rfl, if_pos hl]
    rw [e1]
    have hg := fun W h => words_Get.calls A c l 0 4 W h HC.out (by unfold words_Get.f; rw [if_pos hok, if_pos hl, if_pos hl])
    have HG := Aside0.mk hg
    have HL := Aside0.mk hl
    clear hg hl e1 hok hS hne
    go_enter Tryd.func84, Tryd.ntmps84
    go_wp2_with fail
    refine (HG.out _ HB.out).mono ?_
    rintro e w1 ⟨rfl, ⟨nd, rfl⟩⟩
    have c2 : (w.drewN nd).cell? ⟨D, k, none⟩ = some v := HV.out
    have z2 : (w.drewN nd).frozen? ⟨D, k, none⟩ = false := HZ.out
    go_wp2
    go_ret
    exact ⟨rfl, nd, .inl ⟨HL.out, rfl⟩⟩
  · have e1 : numG l 0 = (deB (l.take 4), l.drop 4, 0) := by unfold numG; rw [if_pos rfl, if_neg hl]
    rw [e1]
    have hg := fun W h => words_Get.calls A c l (deB (l.take 4)) 0 W h HC.out (by unfold words_Get.f; rw [if_pos hok, if_neg hl, if_neg hl])
    have HG := Aside0.mk hg
    have h4 : 4 ≤ l.length := by omega
    obtain ⟨A4, hcut, hR4⟩ := from_ A l c 4 4 rfl h4 HC.out
    have HR4 := Aside0.mk hR4
    have HL := Aside0.mk h4
    clear hg hl e1 hR4 hok hS hne
    go_enter Tryd.func84, Tryd.ntmps84
    go_wp2_with fail
    refine (HG.out _ HB.out).mono ?_
    rintro e w1 ⟨rfl, ⟨nd, rfl⟩⟩
    have c2 : (w.drewN nd).cell? ⟨D, k, none⟩ = some v := HV.out
    have z2 : (w.drewN nd).frozen? ⟨D, k, none⟩ = false := HZ.out
    obtain ⟨wq, hwq⟩ : ∃ wq, (w.drewN nd).setCell ⟨D, k, none⟩ (.int .u32 (deB (l.take 4))) = wq := ⟨_, rfl⟩
    have c3 : ((w.drewN nd).setCell ⟨D, k, none⟩ (.int .u32 (deB (l.take 4)))).cell? ⟨C, 0, none⟩ = some (.slice A l.length c) := by
      by_cases hD : D = C
      · subst hD
        have := (HRD.out.drewN nd).set k (.int .u32 (deB (l.take 4)))
        rw [set_comm0 a k (HNE.out.resolve_left (fun h => h rfl))] at this
        exact cell0 this (by rw [Array.size_setIfInBounds]; exact HSZ.out)
      · exact cell0 ((HRD.out.drewN nd).other (Ne.symm hD) k _) HSZ.out
    have z3 : ((w.drewN nd).setCell ⟨D, k, none⟩ (.int .u32 (deB (l.take 4)))).frozen? ⟨C, 0, none⟩ = false := by
      by_cases hD : D = C
      · subst hD
        exact ((HRD.out.drewN nd).set k _).fz 0
      · exact ((HRD.out.drewN nd).other (Ne.symm hD) k _).fz 0
    clear hwq
    go_wp2
    go_ret
    exact ⟨rfl, nd, .inr ⟨HL.out, A4, c - 4, by have := HC.out; omega, fun W h => HR4.out W (HR.out W h), rfl⟩⟩
/-- The next number, into a cell of the reader itself. -/
theorem number_own (h0 : Nat) (w0 w : World) (C k : Nat) (l : List Int) (a : Array Value) (hS : RS h0 w0 w C l a) (hok : byteOk (l.take 4) = true) (hk : k ≠ 0) (hk2 : k < 12) :
    Calls Tryd.prog 84 #[.pointer (some ⟨C, 0, none⟩), .pointer (some ⟨C, k, none⟩)] w fun x w' => x = .returned (.int .i64 (numG l 0).2.2) ∧ RS h0 w0 w' C (numG l 0).2.1 (a.setIfInBounds k (.int .u32 (numG l 0).1)) ∧ Kept1 w w' C := by
  have hv : w.cell? ⟨C, k, none⟩ = some (a[k]'(by rw [hS.size]; exact hk2)) := by rw [hS.cell k hk, Array.getElem?_eq_getElem]
  refine (rnumber_calls h0 w0 w C C k l a _ hS hok hv (hS.fz k) (.inr hk)).mono ?_
  rintro x w' ⟨rfl, nd, ⟨hl, rfl⟩ | ⟨hl, A', c', hc, hR, rfl⟩⟩
  · have e1 : numG l 0 = (0, l, 4) := by unfold numG; rw [if_pos rfl, if_pos hl]
    rw [e1]
    exact ⟨rfl, (hS.drewN nd).setF k hk _, ((Kept1.refl w C).drewN nd).set k _⟩
  · have e1 : numG l 0 = (deB (l.take 4), l.drop 4, 0) := by unfold numG; rw [if_pos rfl, if_neg (by omega)]
    rw [e1]
    exact ⟨rfl, ((hS.drewN nd).setF k hk _).setB A' c' _ (by rw [List.length_drop]) (by rw [List.length_drop]; exact hc) hR, (((Kept1.refl w C).drewN nd).set k _).set 0 _⟩

theorem numG_range32 (l : List Int) : True := trivial
set_option maxHeartbeats 2000000 in
theorem must_calls (h0 : Nat) (w0 w : World) (C : Nat) (l : List Int) (a : Array Value) (n : Int) (hS : RS h0 w0 w C l a) (hok : byteOk (l.take 4) = true) :
    Calls Tryd.prog 86 #[.pointer (some ⟨C, 0, none⟩), .int .u32 n] w fun x w' => x = .returned (.int .i64 (mustE n l 0)) ∧ RS h0 w0 w' C (numG l 0).2.1 a ∧ Kept1 w w' C := by
  have hlt := hS.lt
  have hb1 := below_alloc (Below.refl w.heap.size w) (.cells #[.int .u32 0] 22)
  have hS1 := hS.kept hb1
  have hbx : Boxed (w.alloc (.cells #[.int .u32 0] 22)) w.heap.size 22 (.int .u32 0) := Boxed.new w _ _
  have hcall := rnumber_calls h0 w0 (w.alloc (.cells #[.int .u32 0] 22)) C w.heap.size 0 l a (.int .u32 0) hS1 hok hbx.cell hbx.frozen (.inl (by omega))
  have HCALL := Aside0.mk hcall
  have HS1 := Aside0.mk hS1
  have HBX := Aside0.mk hbx
  have HLT := Aside0.mk hlt
  have HK1 := Aside0.mk ((Kept1.refl w C).below hb1)
  clear hcall hS1 hbx hlt hb1 hS hok
  go_enter Tryd.func86, Tryd.ntmps86
  go_wp2_with fail
  refine HCALL.out.mono ?_
  rintro x w' ⟨rfl, nd, ⟨hl, rfl⟩ | ⟨hl, A', c', hc, hR, rfl⟩⟩
  · have e1 : numG l 0 = (0, l, 4) := by unfold numG; rw [if_pos rfl, if_pos hl]
    have e2 : mustE n l 0 = 4 := by unfold mustE; rw [e1]; rfl
    have E1 := Aside0.mk e1
    have E2 := Aside0.mk e2
    have HS2 := Aside0.mk ((HS1.out.drewN nd).setO HLT.out 0 (.int .u32 0))
    have HK2 := Aside0.mk ((HK1.out.drewN nd).setNew (Nat.le_refl _) 0 (.int .u32 0))
    rw [e1]
    clear e1 e2 HS1 HK1 HCALL HBX
    obtain ⟨wq, hwq⟩ : ∃ wq, ((w.alloc (.cells #[.int .u32 0] 22)).drewN nd).setCell ⟨w.heap.size, 0, none⟩ (.int .u32 0) = wq := ⟨_, rfl⟩
    rw [hwq] at HS2 HK2 ⊢
    clear hwq
    go_wp2
    go_ret
    rw [E1.out, E2.out]
    exact ⟨rfl, HS2.out, HK2.out⟩
  · have e1 : numG l 0 = (deB (l.take 4), l.drop 4, 0) := by unfold numG; rw [if_pos rfl, if_neg (by omega)]
    have e2 : mustE n l 0 = if deB (l.take 4) = n then 0 else 5 := by unfold mustE; rw [e1]; rfl
    have E1 := Aside0.mk e1
    have E2 := Aside0.mk e2
    have HS2 := Aside0.mk (((HS1.out.drewN nd).setO HLT.out 0 (.int .u32 (deB (l.take 4)))).setB A' c' (l.length - 4) (by rw [List.length_drop]) (by rw [List.length_drop]; exact hc) hR)
    have HK2 := Aside0.mk (((HK1.out.drewN nd).setNew (Nat.le_refl _) 0 (.int .u32 (deB (l.take 4)))).set 0 (.slice A' (l.length - 4) c'))
    have HB2 := Aside0.mk ((((Boxed.drewN HBX.out nd).set (.int .u32 (deB (l.take 4)))).other (Nat.ne_of_gt HLT.out) (.slice A' (l.length - 4) c')) : Boxed _ w.heap.size 22 (.int .u32 (deB (l.take 4))))
    rw [e1]
    obtain ⟨wq, hwq⟩ : ∃ wq, (((w.alloc (.cells #[.int .u32 0] 22)).drewN nd).setCell ⟨w.heap.size, 0, none⟩ (.int .u32 (deB (l.take 4)))).setCell ⟨C, 0, none⟩ (.slice A' (l.length - 4) c') = wq := ⟨_, rfl⟩
    rw [hwq] at HS2 HK2 HB2 ⊢
    have c1 := HB2.out.cell
    clear hwq e1 e2 HS1 HK1 HCALL HBX HB2 hR
    by_cases hn : deB (l.take 4) = n
    · have HI := Aside0.mk (if_pos hn : (if deB (l.take 4) = n then (0 : Int) else 5) = 0)
      have cn : (deB (l.take 4) != n) = false := by simp [hn]
      clear hn
      go_wp2
      go_ret
      rw [E1.out, E2.out, HI.out]
      exact ⟨rfl, HS2.out, HK2.out⟩
    · have HI := Aside0.mk (if_neg hn : (if deB (l.take 4) = n then (0 : Int) else 5) = 5)
      have cn : (deB (l.take 4) != n) = true := by simpa using hn
      clear hn
      go_wp2
      go_ret
      rw [E1.out, E2.out, HI.out]
      exact ⟨rfl, HS2.out, HK2.out⟩
theorem oauth_some {l : List Int} (hb : byteOk l = true) : ∃ (xs : List Int) (n : Nat) (e : Int), opaque_Get.f l 400 = some (xs, (n : Int), e) ∧ n ≤ l.length ∧ authG l 0 = (xs, l.drop n, e) := by
  rcases get_again l 400 hb with ⟨e, _, he⟩ | ⟨xs, n, he, hn, _⟩
  · exact ⟨_, 0, _, he, Nat.zero_le _, by unfold authG; rw [if_pos rfl, he]; rfl⟩
  · exact ⟨_, n, _, he, hn, by unfold authG; rw [if_pos rfl, he]; rfl⟩
set_option maxHeartbeats 2000000 in
theorem auth_calls (h0 : Nat) (w0 w : World) (C : Nat) (l : List Int) (a : Array Value) (hS : RS h0 w0 w C l a) (hok : byteOk l = true) :
    Calls Tryd.prog 92 #[.pointer (some ⟨C, 0, none⟩)] w fun x w' => ∃ v, x = .returned (.tuple #[v, .int .i64 (authG l 0).2.2]) ∧ Kd.R (Kd.int .u8) 5 w' w.heap.size (fun _ => True) v (authG l 0).1 ∧ RS h0 w0 w' C (authG l 0).2.1 a ∧ Kept1 w w' C := by
  obtain ⟨xs, n, e, hg, hn, ha⟩ := oauth_some hok
  rw [ha]
  obtain ⟨A, c, hB, hc, hR⟩ := hS.got
  have hl := hS.lt
  have c1 := cell0 hB hS.size
  have z1 := hB.fz 0
  obtain ⟨A4, hcut, hR4⟩ := from_ A l c n n rfl hn hc
  have HCALL := Aside0.mk (opaque_Get.calls A c l 400 xs n e w (hR w hS.bel) hc hg)
  have HR4 := Aside0.mk hR4
  have HR := Aside0.mk hR
  have HC := Aside0.mk hc
  have HS := Aside0.mk hS
  have HN := Aside0.mk hn
  have HRD := Aside0.mk hB
  have HL := Aside0.mk hl
  clear hR4 hg ha hB hc hR hS hok hn hl
  go_enter Tryd.func92, Tryd.ntmps92
  go_wp2_with fail
  refine HCALL.out.mono ?_
  rintro x w1 ⟨v, rfl, ho, hb⟩
  have hrd := HRD.out.below hb
  have c2 := cell0 hrd HS.out.size
  have z2 := hrd.fz 0
  obtain ⟨A1, c1', rfl, _, _⟩ := OB_reads ho
  have HS2 := Aside0.mk ((HS.out.kept hb).setB A4 (c - n) (l.length - n) (by rw [List.length_drop]) (by have := HC.out; rw [List.length_drop]; omega) (fun W h => HR4.out W (HR.out W h)))
  have HK2 := Aside0.mk (((Kept1.refl w C).below hb).set 0 (.slice A4 (l.length - n) (c - n)))
  have HO2 := Aside0.mk (R_setC ho (C := C) (i := 0) (x := .slice A4 (l.length - n) (c - n)) HL.out)
  clear hrd ho hb HCALL c1 z1
  go_wp2
  go_ret2
  refine ⟨.slice A1 xs.length c1', ?_, HO2.out, HS2.out, HK2.out⟩
  rfl

set_option maxHeartbeats 2000000 in
theorem sure_calls (h0 : Nat) (w0 w : World) (C : Nat) (l : List Int) (a : Array Value) (hS : RS h0 w0 w C l a) (hok : byteOk l = true) :
    Calls Tryd.prog 53 #[.pointer (some ⟨C, 0, none⟩)] w fun x w' => x = .returned (.int .i64 (sureG l 0).2) ∧ RS h0 w0 w' C (sureG l 0).1 a ∧ Kept1 w w' C := by
  have HM := Aside0.mk (must_calls h0 w0 w C l a 0 hS (byteOk_take hok 4))
  have hok2 : byteOk (numG l 0).2.1 = true := numG_ok hok 0
  obtain ⟨l2, hl2⟩ : ∃ l2, (numG l 0).2.1 = l2 := ⟨_, rfl⟩
  obtain ⟨e1, he1⟩ : ∃ e1, mustE 0 l 0 = e1 := ⟨_, rfl⟩
  rw [hl2] at hok2 HM
  rw [he1] at HM
  have HSG := Aside0.mk (show sureG l 0 = ((authG l2 e1).2.1, if (authG l2 e1).2.2 = 0 then (if (authG l2 e1).1 = [] then 0 else 5) else (authG l2 e1).2.2) by unfold sureG; rw [he1, hl2])
  have HOK := Aside0.mk hok2
  clear hS hok hok2 hl2 he1
  by_cases hz : e1 = 0
  · subst hz
    obtain ⟨y, l3, e2, ha⟩ : ∃ y l3 e2, authG l2 0 = (y, l3, e2) := ⟨_, _, _, rfl⟩
    have HAU := Aside0.mk (fun w1 h1 => auth_calls h0 w0 w1 C l2 a h1 HOK.out)
    rw [ha] at HSG HAU
    clear ha
    go_enter Tryd.func53, Tryd.ntmps53
    go_wp2_with fail
    refine HM.out.mono ?_
    rintro x w1 ⟨rfl, hs1, hk1⟩
    have HS1 := Aside0.mk hs1
    have HK1 := Aside0.mk hk1
    clear hs1 hk1 HM
    go_wp2_with fail
    refine (HAU.out w1 HS1.out).mono ?_
    rintro x w2 ⟨v, rfl, ho, hs2, hk2⟩
    obtain ⟨A2, c2, rfl, hc2, _⟩ := Kd.R_reads ho
    have HS2 := Aside0.mk hs2
    have HK2 := Aside0.mk (HK1.out.trans hk2)
    clear ho hs2 hk2 HS1 HK1 HAU hc2
    by_cases h2 : e2 = 0
    · subst h2
      by_cases hy : y = []
      · have hyl : ((y.length : Int) > 0) = False := by rw [hy]; simp
        have q1 : decide ((y.length : Int) > 0) = false := by rw [hy]; rfl
        have HF := Aside0.mk (show sureG l 0 = (l3, 0) by rw [HSG.out, if_pos rfl, if_pos hy])
        have hyn : y.length = 0 := by rw [hy]; rfl
        clear hy hyl
        go_wp2
        go_ret
        rw [HF.out]
        exact ⟨rfl, HS2.out, HK2.out⟩
      · have hyp : 0 < y.length := List.length_pos_iff.2 hy
        have q1 : decide ((y.length : Int) > 0) = true := decide_eq_true (by omega)
        have HF := Aside0.mk (show sureG l 0 = (l3, 5) by rw [HSG.out, if_pos rfl, if_neg hy])
        clear hy
        go_wp2
        go_ret
        rw [HF.out]
        exact ⟨rfl, HS2.out, HK2.out⟩
    · have q2 : (e2 == 0) = false := beq_eq_false_iff_ne.mpr h2
      have HF := Aside0.mk (show sureG l 0 = (l3, e2) by rw [HSG.out, if_neg h2])
      clear h2
      go_wp2
      go_ret
      rw [HF.out]
      exact ⟨rfl, HS2.out, HK2.out⟩
  · have q1 : (e1 != 0) = true := bne_iff_ne.mpr hz
    have HA := Aside0.mk (show authG l2 e1 = ([], l2, e1) by unfold authG; rw [if_neg hz])
    have HF := Aside0.mk (show sureG l 0 = (l2, e1) by rw [HSG.out, HA.out]; dsimp only; rw [if_neg hz])
    clear hz
    go_enter Tryd.func53, Tryd.ntmps53
    go_wp2_with fail
    refine HM.out.mono ?_
    rintro x w1 ⟨rfl, hs1, hk1⟩
    have HS1 := Aside0.mk hs1
    have HK1 := Aside0.mk hk1
    clear hs1 hk1 HM
    go_wp2
    go_ret
    rw [HF.out]
    exact ⟨rfl, HS1.out, HK1.out⟩
theorem byteOk_of_putL {xs : List Int} (h : byteOk (putL xs) = true) : byteOk xs = true := by
  unfold byteOk at h ⊢
  rw [List.all_eq_true] at h ⊢
  intro x hx
  refine h x ?_
  unfold putL padded
  simp [hx]
theorem oauth_bytes {l xs : List Int} {n e : Int} (hb : byteOk l = true) (hg : opaque_Get.f l 400 = some (xs, n, e)) : byteOk xs = true := by
  rcases get_again l 400 hb with ⟨e, _, he⟩ | ⟨ys, m, he, hn, _, hp, _⟩
  · rw [he] at hg
    simp only [Option.some.injEq, Prod.mk.injEq] at hg
    rw [← hg.1]; rfl
  · rw [he] at hg
    simp only [Option.some.injEq, Prod.mk.injEq] at hg
    rw [← hg.1]
    exact byteOk_of_putL (by rw [hp]; exact byteOk_take hb _)
/-- The cells of a reader that has read the seven numbers. -/
abbrev rdA (x p v o f : Int) (m : ByteArray) (s u g : Int) (Vg : Value) : Array Value := #[.slice none 0 0, .int .u32 x, .int .u32 p, .int .u32 v, .int .u32 o, .int .u32 f, .string m, .int .u32 s, .int .u32 u, .int .u32 g, Vg, .slice none 0 0]
set_option maxHeartbeats 4000000 in
set_option maxRecDepth 100000 in
theorem who_calls (h0 : Nat) (w0 w : World) (C : Nat) (l : List Int) (x p v o f : Int) (hS : RS h0 w0 w C l (rdA x p v o f ByteArray.empty 0 0 0 (.slice none 0 0))) (hok : byteOk l = true) :
    Calls Tryd.prog 52 #[.pointer (some ⟨C, 0, none⟩)] w fun y w' => y = .returned (.int .i64 (whoG f l 0).1.e) ∧ ∃ Vg, RS h0 w0 w' C (whoG f l 0).2 (rdA x p v o f (whoG f l 0).1.m (whoG f l 0).1.s (whoG f l 0).1.u (whoG f l 0).1.g Vg) ∧ Kd.R (Kd.int .u32) 22 w' w.heap.size (fun _ => True) Vg (whoG f l 0).1.gs ∧ Kept1 w w' C := by
  obtain ⟨xs, n, e2, hg, hn, ha⟩ := oauth_some hok
  have hxb := oauth_bytes hok hg
  have HAU := Aside0.mk (auth_calls h0 w0 w C l _ hS hok)
  have HL := Aside0.mk hS.lt
  have HW := Aside0.mk (show whoG f l 0 = if e2 = 0 then (if f = 1 then (credG xs, l.drop n) else (credZ (if xs = [] then 0 else 5), l.drop n)) else (credZ e2, l.drop n) by unfold whoG; rw [ha])
  rw [ha] at HAU
  obtain ⟨l2, hl2⟩ : ∃ l2, l.drop n = l2 := ⟨_, rfl⟩
  rw [hl2] at HAU HW
  clear ha hg hn hS hok hl2
  go_enter Tryd.func52, Tryd.ntmps52
  go_wp2_with fail
  refine HAU.out.mono ?_
  rintro y w1 ⟨v1, rfl, ho, hs1, hk1⟩
  obtain ⟨A1, c1, rfl, hc1, hR1⟩ := Kd.R_reads ho
  have HC1 := Aside0.mk hc1
  have HR1 := Aside0.mk hR1
  have HS1 := Aside0.mk hs1
  have HK1 := Aside0.mk hk1
  clear ho hs1 hk1 hc1 hR1 HAU
  by_cases h2 : e2 = 0
  case neg =>
    have q1 : (e2 != 0) = true := bne_iff_ne.mpr h2
    have HF := Aside0.mk (show whoG f l 0 = (credZ e2, l2) by rw [HW.out, if_neg h2])
    clear h2
    go_wp2
    go_ret
    rw [HF.out]
    exact ⟨rfl, .slice none 0 0, HS1.out, Kd.R_nil _ _ _ _ _, HK1.out⟩
  subst h2
  have cf := HS1.out.cell 5 (by decide)
  have cf' : w1.cell? ⟨C, 5, none⟩ = some (.int .u32 f) := cf
  clear cf
  by_cases hf : f = 1
  case neg =>
    have q1 : (f == 1) = false := beq_eq_false_iff_ne.mpr hf
    by_cases hy : xs = []
    · have hyn : xs.length = 0 := by rw [hy]; rfl
      have HF := Aside0.mk (show whoG f l 0 = (credZ 0, l2) by rw [HW.out, if_pos rfl, if_neg hf, if_pos hy])
      clear hy hf
      go_wp2
      go_ret
      rw [HF.out]
      exact ⟨rfl, .slice none 0 0, HS1.out, Kd.R_nil _ _ _ _ _, HK1.out⟩
    · have hyp : 0 < xs.length := List.length_pos_iff.2 hy
      have q2 : decide ((xs.length : Int) > 0) = true := decide_eq_true (by omega)
      have HF := Aside0.mk (show whoG f l 0 = (credZ 5, l2) by rw [HW.out, if_pos rfl, if_neg hf, if_neg hy])
      clear hy hf
      go_wp2
      go_ret
      rw [HF.out]
      exact ⟨rfl, .slice none 0 0, HS1.out, Kd.R_nil _ _ _ _ _, HK1.out⟩
  subst hf
  have HF := Aside0.mk (show whoG 1 l 0 = (credG xs, l2) by rw [HW.out, if_pos rfl, if_pos rfl])
  have HCG := Aside0.mk (show creds_Get.f xs = some ((credG xs).s, (credG xs).m, (credG xs).u, (credG xs).g, (credG xs).gs, (credG xs).e) by unfold creds_Get.f; rw [if_pos hxb])
  obtain ⟨⟨rs, rm, ru, rg, rgs, re⟩, hcr⟩ : ∃ r, credG xs = r := ⟨_, rfl⟩
  rw [hcr] at HF HCG
  clear hcr HW hxb
  go_wp2_with fail
  refine (creds_Get.calls A1 c1 xs rs rm ru rg rgs re w1 HR1.out HC1.out HCG.out).mono ?_
  rintro y w2 ⟨v2, rfl, ho2, hb2⟩
  have HO2 := Aside0.mk ho2
  have HS2 := Aside0.mk (HS1.out.kept hb2)
  have HK2 := Aside0.mk (HK1.out.below hb2)
  have HLC := Aside0.mk (Nat.lt_of_lt_of_le HL.out HK1.out.1)
  clear ho2 hb2 HR1 HC1 HCG
  obtain ⟨A2, c2, rfl, _, _⟩ := Kd.R_reads HO2.out
  have HS4 := Aside0.mk ((HS2.out.setF 7 (by decide) (.int .u32 rs)).setF 6 (by decide) (.string rm))
  have c8 : ((w2.setCell ⟨C, 7, none⟩ (.int .u32 rs)).setCell ⟨C, 6, none⟩ (.string rm)).cell? ⟨C, 8, none⟩ = some (.int .u32 0) := HS4.out.cell 8 (by decide)
  have z8 := HS4.out.fz 8
  have c9 : (((w2.setCell ⟨C, 7, none⟩ (.int .u32 rs)).setCell ⟨C, 6, none⟩ (.string rm)).setCell ⟨C, 8, none⟩ (.int .u32 ru)).cell? ⟨C, 9, none⟩ = some (.int .u32 0) := (HS4.out.setF 8 (by decide) (.int .u32 ru)).cell 9 (by decide)
  have z9 := (HS4.out.setF 8 (by decide) (.int .u32 ru)).fz 9
  have c10 : ((((w2.setCell ⟨C, 7, none⟩ (.int .u32 rs)).setCell ⟨C, 6, none⟩ (.string rm)).setCell ⟨C, 8, none⟩ (.int .u32 ru)).setCell ⟨C, 9, none⟩ (.int .u32 rg)).cell? ⟨C, 10, none⟩ = some (.slice none 0 0) := ((HS4.out.setF 8 (by decide) (.int .u32 ru)).setF 9 (by decide) (.int .u32 rg)).cell 10 (by decide)
  have z10 := ((HS4.out.setF 8 (by decide) (.int .u32 ru)).setF 9 (by decide) (.int .u32 rg)).fz 10
  have HS5 := Aside0.mk (((HS4.out.setF 8 (by decide) (.int .u32 ru)).setF 9 (by decide) (.int .u32 rg)).setF 10 (by decide) (.slice A2 rgs.length c2))
  have HO5 := Aside0.mk (R_setC (R_setC (R_setC (R_setC (R_setC HO2.out (C := C) (i := 7) (x := .int .u32 rs) HLC.out) (C := C) (i := 6) (x := .string rm) HLC.out) (C := C) (i := 8) (x := .int .u32 ru) HLC.out) (C := C) (i := 9) (x := .int .u32 rg) HLC.out) (C := C) (i := 10) (x := .slice A2 rgs.length c2) HLC.out)
  have HK5 := Aside0.mk (((((HK2.out.set 7 (.int .u32 rs)).set 6 (.string rm)).set 8 (.int .u32 ru)).set 9 (.int .u32 rg)).set 10 (.slice A2 rgs.length c2))
  have z6 := HS2.out.fz 6
  have z7 := HS2.out.fz 7
  have c6 : w2.cell? ⟨C, 6, none⟩ = some (.string ByteArray.empty) := HS2.out.cell 6 (by decide)
  have c7 : w2.cell? ⟨C, 7, none⟩ = some (.int .u32 0) := HS2.out.cell 7 (by decide)
  go_wp2
  go_ret
  rw [HF.out]
  exact ⟨rfl, .slice A2 rgs.length c2, HS5.out, Kd.R_lower HO5.out HK1.out.1, HK5.out⟩

set_option maxHeartbeats 2000000 in
theorem begins1_calls (h0 : Nat) (w0 w : World) (C R Q : Nat) (l : List Int) (a : Array Value) (hS : RS h0 w0 w C l a) (hok : byteOk l = true) (hR : Boxed w R 60 (.pointer (some ⟨C, 0, none⟩))) (hQ : Boxed w Q 124 (.pointer (some ⟨C, 1, none⟩))) (hRC : R ≠ C) (hQC : Q ≠ C) :
    Calls Tryd.prog 83 #[.pointer (some ⟨R, 0, none⟩), .pointer (some ⟨Q, 0, none⟩)] w fun x w' => x = .returned (.int .i64 (numG l 0).2.2) ∧ RS h0 w0 w' C (numG l 0).2.1 (a.setIfInBounds 1 (.int .u32 (numG l 0).1)) ∧ Kept1 w w' C := by
  have HN : Aside0 (∀ n, Calls Tryd.prog 84 #[.pointer (some ⟨C, 0, none⟩), .pointer (some ⟨C, 1, none⟩)] (w.drewN n) fun x w' => x = .returned (.int .i64 (numG l 0).2.2) ∧ RS h0 w0 w' C (numG l 0).2.1 (a.setIfInBounds 1 (.int .u32 (numG l 0).1)) ∧ Kept1 (w.drewN n) w' C) := ⟨fun n => number_own h0 w0 (w.drewN n) C 1 l a (hS.drewN n) (byteOk_take hok 4) (by decide) (by decide)⟩
  have c1 := hR.cell
  have c2 := hQ.cell
  have HC1 := Aside0.mk c1
  have HC2 := Aside0.mk c2
  have HBR := Aside0.mk (Boxed.drewN hR 1)
  have HBQ := Aside0.mk (Boxed.drewN hQ 1)
  have HRC := Aside0.mk hRC
  have HQC := Aside0.mk hQC
  clear hS hok hR hQ hRC hQC
  go_enter Tryd.func83, Tryd.ntmps83
  go_wp2_with fail
  go_region_held3 (fun w' => w'.cell? ⟨R, 0, none⟩ = some (.pointer (some ⟨C, 0, none⟩)) ∧ w'.cell? ⟨Q, 0, none⟩ = some (.pointer (some ⟨C, 1, none⟩))) (first | exact ⟨HC1.out, HC2.out⟩ | exact ⟨HD1.out, HD2.out⟩ | go_keep)
    (first | (go_at_call 84; refine (HN.out 1).mono ?_; rintro x w1 ⟨rfl, hs1, hk1⟩; have HD1 := Aside0.mk (hk1.box HBR.out HRC.out).cell; have HD2 := Aside0.mk (hk1.box HBQ.out HQC.out).cell; have HS1 := Aside0.mk hs1; have HK1 := Aside0.mk hk1; clear hs1 hk1))
  go_wp2
  go_ret
  exact ⟨rfl, HS1.out, ((Kept1.refl w C).drewN 1).trans HK1.out⟩
set_option maxHeartbeats 2000000 in
theorem begins4_calls (h0 : Nat) (w0 w : World) (C R Q : Nat) (l : List Int) (a : Array Value) (hS : RS h0 w0 w C l a) (hok : byteOk l = true) (hR : Boxed w R 60 (.pointer (some ⟨C, 0, none⟩))) (hQ : Boxed w Q 124 (.pointer (some ⟨C, 1, none⟩))) (hRC : R ≠ C) (hQC : Q ≠ C) :
    Calls Tryd.prog 88 #[.pointer (some ⟨R, 0, none⟩), .pointer (some ⟨Q, 0, none⟩)] w fun x w' => x = .returned (.int .i64 (numG l 0).2.2) ∧ RS h0 w0 w' C (numG l 0).2.1 (a.setIfInBounds 2 (.int .u32 (numG l 0).1)) ∧ Kept1 w w' C := by
  have HN : Aside0 (∀ n, Calls Tryd.prog 84 #[.pointer (some ⟨C, 0, none⟩), .pointer (some ⟨C, 2, none⟩)] (w.drewN n) fun x w' => x = .returned (.int .i64 (numG l 0).2.2) ∧ RS h0 w0 w' C (numG l 0).2.1 (a.setIfInBounds 2 (.int .u32 (numG l 0).1)) ∧ Kept1 (w.drewN n) w' C) := ⟨fun n => number_own h0 w0 (w.drewN n) C 2 l a (hS.drewN n) (byteOk_take hok 4) (by decide) (by decide)⟩
  have c1 := hR.cell
  have c2 := hQ.cell
  have HC1 := Aside0.mk c1
  have HC2 := Aside0.mk c2
  have HBR := Aside0.mk (Boxed.drewN hR 1)
  have HBQ := Aside0.mk (Boxed.drewN hQ 1)
  have HRC := Aside0.mk hRC
  have HQC := Aside0.mk hQC
  clear hS hok hR hQ hRC hQC
  go_enter Tryd.func88, Tryd.ntmps88
  go_wp2_with fail
  go_region_held3 (fun w' => w'.cell? ⟨R, 0, none⟩ = some (.pointer (some ⟨C, 0, none⟩)) ∧ w'.cell? ⟨Q, 0, none⟩ = some (.pointer (some ⟨C, 1, none⟩))) (first | exact ⟨HC1.out, HC2.out⟩ | exact ⟨HD1.out, HD2.out⟩ | go_keep)
    (first | (go_at_call 84; refine (HN.out 1).mono ?_; rintro x w1 ⟨rfl, hs1, hk1⟩; have HD1 := Aside0.mk (hk1.box HBR.out HRC.out).cell; have HD2 := Aside0.mk (hk1.box HBQ.out HQC.out).cell; have HS1 := Aside0.mk hs1; have HK1 := Aside0.mk hk1; clear hs1 hk1))
  go_wp2
  go_ret
  exact ⟨rfl, HS1.out, ((Kept1.refl w C).drewN 1).trans HK1.out⟩
set_option maxHeartbeats 2000000 in
theorem begins5_calls (h0 : Nat) (w0 w : World) (C R Q : Nat) (l : List Int) (a : Array Value) (hS : RS h0 w0 w C l a) (hok : byteOk l = true) (hR : Boxed w R 60 (.pointer (some ⟨C, 0, none⟩))) (hQ : Boxed w Q 124 (.pointer (some ⟨C, 1, none⟩))) (hRC : R ≠ C) (hQC : Q ≠ C) :
    Calls Tryd.prog 89 #[.pointer (some ⟨R, 0, none⟩), .pointer (some ⟨Q, 0, none⟩)] w fun x w' => x = .returned (.int .i64 (numG l 0).2.2) ∧ RS h0 w0 w' C (numG l 0).2.1 (a.setIfInBounds 3 (.int .u32 (numG l 0).1)) ∧ Kept1 w w' C := by
  have HN : Aside0 (∀ n, Calls Tryd.prog 84 #[.pointer (some ⟨C, 0, none⟩), .pointer (some ⟨C, 3, none⟩)] (w.drewN n) fun x w' => x = .returned (.int .i64 (numG l 0).2.2) ∧ RS h0 w0 w' C (numG l 0).2.1 (a.setIfInBounds 3 (.int .u32 (numG l 0).1)) ∧ Kept1 (w.drewN n) w' C) := ⟨fun n => number_own h0 w0 (w.drewN n) C 3 l a (hS.drewN n) (byteOk_take hok 4) (by decide) (by decide)⟩
  have c1 := hR.cell
  have c2 := hQ.cell
  have HC1 := Aside0.mk c1
  have HC2 := Aside0.mk c2
  have HBR := Aside0.mk (Boxed.drewN hR 1)
  have HBQ := Aside0.mk (Boxed.drewN hQ 1)
  have HRC := Aside0.mk hRC
  have HQC := Aside0.mk hQC
  clear hS hok hR hQ hRC hQC
  go_enter Tryd.func89, Tryd.ntmps89
  go_wp2_with fail
  go_region_held3 (fun w' => w'.cell? ⟨R, 0, none⟩ = some (.pointer (some ⟨C, 0, none⟩)) ∧ w'.cell? ⟨Q, 0, none⟩ = some (.pointer (some ⟨C, 1, none⟩))) (first | exact ⟨HC1.out, HC2.out⟩ | exact ⟨HD1.out, HD2.out⟩ | go_keep)
    (first | (go_at_call 84; refine (HN.out 1).mono ?_; rintro x w1 ⟨rfl, hs1, hk1⟩; have HD1 := Aside0.mk (hk1.box HBR.out HRC.out).cell; have HD2 := Aside0.mk (hk1.box HBQ.out HQC.out).cell; have HS1 := Aside0.mk hs1; have HK1 := Aside0.mk hk1; clear hs1 hk1))
  go_wp2
  go_ret
  exact ⟨rfl, HS1.out, ((Kept1.refl w C).drewN 1).trans HK1.out⟩
set_option maxHeartbeats 2000000 in
theorem begins6_calls (h0 : Nat) (w0 w : World) (C R Q : Nat) (l : List Int) (a : Array Value) (hS : RS h0 w0 w C l a) (hok : byteOk l = true) (hR : Boxed w R 60 (.pointer (some ⟨C, 0, none⟩))) (hQ : Boxed w Q 124 (.pointer (some ⟨C, 1, none⟩))) (hRC : R ≠ C) (hQC : Q ≠ C) :
    Calls Tryd.prog 90 #[.pointer (some ⟨R, 0, none⟩), .pointer (some ⟨Q, 0, none⟩)] w fun x w' => x = .returned (.int .i64 (numG l 0).2.2) ∧ RS h0 w0 w' C (numG l 0).2.1 (a.setIfInBounds 4 (.int .u32 (numG l 0).1)) ∧ Kept1 w w' C := by
  have HN : Aside0 (∀ n, Calls Tryd.prog 84 #[.pointer (some ⟨C, 0, none⟩), .pointer (some ⟨C, 4, none⟩)] (w.drewN n) fun x w' => x = .returned (.int .i64 (numG l 0).2.2) ∧ RS h0 w0 w' C (numG l 0).2.1 (a.setIfInBounds 4 (.int .u32 (numG l 0).1)) ∧ Kept1 (w.drewN n) w' C) := ⟨fun n => number_own h0 w0 (w.drewN n) C 4 l a (hS.drewN n) (byteOk_take hok 4) (by decide) (by decide)⟩
  have c1 := hR.cell
  have c2 := hQ.cell
  have HC1 := Aside0.mk c1
  have HC2 := Aside0.mk c2
  have HBR := Aside0.mk (Boxed.drewN hR 1)
  have HBQ := Aside0.mk (Boxed.drewN hQ 1)
  have HRC := Aside0.mk hRC
  have HQC := Aside0.mk hQC
  clear hS hok hR hQ hRC hQC
  go_enter Tryd.func90, Tryd.ntmps90
  go_wp2_with fail
  go_region_held3 (fun w' => w'.cell? ⟨R, 0, none⟩ = some (.pointer (some ⟨C, 0, none⟩)) ∧ w'.cell? ⟨Q, 0, none⟩ = some (.pointer (some ⟨C, 1, none⟩))) (first | exact ⟨HC1.out, HC2.out⟩ | exact ⟨HD1.out, HD2.out⟩ | go_keep)
    (first | (go_at_call 84; refine (HN.out 1).mono ?_; rintro x w1 ⟨rfl, hs1, hk1⟩; have HD1 := Aside0.mk (hk1.box HBR.out HRC.out).cell; have HD2 := Aside0.mk (hk1.box HBQ.out HQC.out).cell; have HS1 := Aside0.mk hs1; have HK1 := Aside0.mk hk1; clear hs1 hk1))
  go_wp2
  go_ret
  exact ⟨rfl, HS1.out, ((Kept1.refl w C).drewN 1).trans HK1.out⟩
set_option maxHeartbeats 2000000 in
theorem begins7_calls (h0 : Nat) (w0 w : World) (C R Q : Nat) (l : List Int) (a : Array Value) (hS : RS h0 w0 w C l a) (hok : byteOk l = true) (hR : Boxed w R 60 (.pointer (some ⟨C, 0, none⟩))) (hQ : Boxed w Q 124 (.pointer (some ⟨C, 1, none⟩))) (hRC : R ≠ C) (hQC : Q ≠ C) :
    Calls Tryd.prog 91 #[.pointer (some ⟨R, 0, none⟩), .pointer (some ⟨Q, 0, none⟩)] w fun x w' => x = .returned (.int .i64 (numG l 0).2.2) ∧ RS h0 w0 w' C (numG l 0).2.1 (a.setIfInBounds 5 (.int .u32 (numG l 0).1)) ∧ Kept1 w w' C := by
  have HN : Aside0 (∀ n, Calls Tryd.prog 84 #[.pointer (some ⟨C, 0, none⟩), .pointer (some ⟨C, 5, none⟩)] (w.drewN n) fun x w' => x = .returned (.int .i64 (numG l 0).2.2) ∧ RS h0 w0 w' C (numG l 0).2.1 (a.setIfInBounds 5 (.int .u32 (numG l 0).1)) ∧ Kept1 (w.drewN n) w' C) := ⟨fun n => number_own h0 w0 (w.drewN n) C 5 l a (hS.drewN n) (byteOk_take hok 4) (by decide) (by decide)⟩
  have c1 := hR.cell
  have c2 := hQ.cell
  have HC1 := Aside0.mk c1
  have HC2 := Aside0.mk c2
  have HBR := Aside0.mk (Boxed.drewN hR 1)
  have HBQ := Aside0.mk (Boxed.drewN hQ 1)
  have HRC := Aside0.mk hRC
  have HQC := Aside0.mk hQC
  clear hS hok hR hQ hRC hQC
  go_enter Tryd.func91, Tryd.ntmps91
  go_wp2_with fail
  go_region_held3 (fun w' => w'.cell? ⟨R, 0, none⟩ = some (.pointer (some ⟨C, 0, none⟩)) ∧ w'.cell? ⟨Q, 0, none⟩ = some (.pointer (some ⟨C, 1, none⟩))) (first | exact ⟨HC1.out, HC2.out⟩ | exact ⟨HD1.out, HD2.out⟩ | go_keep)
    (first | (go_at_call 84; refine (HN.out 1).mono ?_; rintro x w1 ⟨rfl, hs1, hk1⟩; have HD1 := Aside0.mk (hk1.box HBR.out HRC.out).cell; have HD2 := Aside0.mk (hk1.box HBQ.out HQC.out).cell; have HS1 := Aside0.mk hs1; have HK1 := Aside0.mk hk1; clear hs1 hk1))
  go_wp2
  go_ret
  exact ⟨rfl, HS1.out, ((Kept1.refl w C).drewN 1).trans HK1.out⟩
set_option maxHeartbeats 2000000 in
theorem begins2_calls (h0 : Nat) (w0 w : World) (C R : Nat) (l : List Int) (a : Array Value) (hS : RS h0 w0 w C l a) (hok : byteOk l = true) (hR : Boxed w R 60 (.pointer (some ⟨C, 0, none⟩))) :
    Calls Tryd.prog 85 #[.pointer (some ⟨R, 0, none⟩)] w fun x w' => x = .returned (.int .i64 (mustE 0 l 0)) ∧ RS h0 w0 w' C (numG l 0).2.1 a ∧ Kept1 w w' C := by
  have HM := Aside0.mk (must_calls h0 w0 w C l a 0 hS (byteOk_take hok 4))
  have c1 := hR.cell
  clear hS hok hR
  go_enter Tryd.func85, Tryd.ntmps85
  go_wp2_with fail
  refine HM.out.mono ?_
  rintro x w1 ⟨rfl, hs1, hk1⟩
  have HS1 := Aside0.mk hs1
  have HK1 := Aside0.mk hk1
  clear hs1 hk1
  go_wp2
  go_ret
  exact ⟨rfl, HS1.out, HK1.out⟩
set_option maxHeartbeats 2000000 in
theorem begins3_calls (h0 : Nat) (w0 w : World) (C R : Nat) (l : List Int) (a : Array Value) (hS : RS h0 w0 w C l a) (hok : byteOk l = true) (hR : Boxed w R 60 (.pointer (some ⟨C, 0, none⟩))) :
    Calls Tryd.prog 87 #[.pointer (some ⟨R, 0, none⟩)] w fun x w' => x = .returned (.int .i64 (mustE 2 l 0)) ∧ RS h0 w0 w' C (numG l 0).2.1 a ∧ Kept1 w w' C := by
  have HM := Aside0.mk (must_calls h0 w0 w C l a 2 hS (byteOk_take hok 4))
  have c1 := hR.cell
  clear hS hok hR
  go_enter Tryd.func87, Tryd.ntmps87
  go_wp2_with fail
  refine HM.out.mono ?_
  rintro x w1 ⟨rfl, hs1, hk1⟩
  have HS1 := Aside0.mk hs1
  have HK1 := Aside0.mk hk1
  clear hs1 hk1
  go_wp2
  go_ret
  exact ⟨rfl, HS1.out, HK1.out⟩
theorem hd_step (s : Option Int) (ss : List (Option Int)) (l : List Int) : hdS (s :: ss) l 0 = ((numG l 0).1 :: (hdS ss (numG l 0).2.1 (if (numG l 0).2.2 = 0 then askG s (numG l 0).1 else (numG l 0).2.2)).1, (hdS ss (numG l 0).2.1 (if (numG l 0).2.2 = 0 then askG s (numG l 0).1 else (numG l 0).2.2)).2) := rfl
theorem ask_none (n e : Int) : (if e = 0 then askG none n else e) = e := by
  by_cases h : e = 0
  · rw [if_pos h, h]; rfl
  · rw [if_neg h]
/-- After so many numbers. -/
structure BS (h0 : Nat) (w0 w1 wr : World) (C : Nat) (l : List Int) (k : Nat) (ns lk : List Int) : Prop where
  st : RS h0 w0 wr C lk (rdA (rd ns 0) (rd ns 3) (rd ns 4) (rd ns 5) (rd ns 6) ByteArray.empty 0 0 0 (.slice none 0 0))
  kept : Kept1 w1 wr C
  ok : byteOk lk = true
  hd : hdS callAsk l 0 = (ns ++ (hdS (callAsk.drop k) lk 0).1, (hdS (callAsk.drop k) lk 0).2)
theorem bs_next {h0 : Nat} {w0 w1 wr w2 : World} {C : Nat} {l : List Int} {k : Nat} {ns lk : List Int} (h : BS h0 w0 w1 wr C l k ns lk) (s : Option Int) (ss : List (Option Int)) (hd : callAsk.drop k = s :: ss) (hd2 : callAsk.drop (k + 1) = ss)
    (he : (if (numG lk 0).2.2 = 0 then askG s (numG lk 0).1 else (numG lk 0).2.2) = 0)
    (hs : RS h0 w0 w2 C (numG lk 0).2.1 (rdA (rd (ns ++ [(numG lk 0).1]) 0) (rd (ns ++ [(numG lk 0).1]) 3) (rd (ns ++ [(numG lk 0).1]) 4) (rd (ns ++ [(numG lk 0).1]) 5) (rd (ns ++ [(numG lk 0).1]) 6) ByteArray.empty 0 0 0 (.slice none 0 0))) (hk : Kept1 wr w2 C) : BS h0 w0 w1 w2 C l (k + 1) (ns ++ [(numG lk 0).1]) (numG lk 0).2.1 := by
  refine ⟨hs, h.kept.trans hk, numG_ok h.ok 0, ?_⟩
  rw [h.hd, hd, hd_step, he, hd2, List.append_assoc]
  rfl
theorem bs_err {h0 : Nat} {w0 w1 wr : World} {C : Nat} {l : List Int} {k : Nat} {ns lk : List Int} (h : BS h0 w0 w1 wr C l k ns lk) (s : Option Int) (ss : List (Option Int)) (hd : callAsk.drop k = s :: ss) {e : Int}
    (he : (if (numG lk 0).2.2 = 0 then askG s (numG lk 0).1 else (numG lk 0).2.2) = e) (hne : e ≠ 0) : (hdS callAsk l 0).2.2 = e := by
  rw [h.hd, hd, hd_step, he]
  exact hdS_err hne ss _
set_option maxHeartbeats 8000000 in
set_option maxRecDepth 100000 in
theorem begins_calls (h0 : Nat) (w0 w : World) (C : Nat) (l : List Int) (hS : RS h0 w0 w C l (rdA 0 0 0 0 0 ByteArray.empty 0 0 0 (.slice none 0 0))) (hok : byteOk l = true) :
    Calls Tryd.prog 51 #[.pointer (some ⟨C, 0, none⟩)] w fun y w' => y = .returned (.int .i64 (flaG (rd (hdS callAsk l 0).1 6) (hdS callAsk l 0).2.2)) ∧ Kept1 w w' C ∧ Below h0 w0 w' ∧ ((hdS callAsk l 0).2.2 = 0 → RS h0 w0 w' C (hdS callAsk l 0).2.1 (rdA (rd (hdS callAsk l 0).1 0) (rd (hdS callAsk l 0).1 3) (rd (hdS callAsk l 0).1 4) (rd (hdS callAsk l 0).1 5) (rd (hdS callAsk l 0).1 6) ByteArray.empty 0 0 0 (.slice none 0 0))) := by
  have hlt := hS.lt
  have hbR := Boxed.new w 60 (.pointer (some ⟨C, 0, none⟩))
  have c1 := hbR.cell
  obtain ⟨wq, hwq⟩ : ∃ wq, (w.alloc (.cells #[.pointer (some ⟨C, 0, none⟩)] 60)).alloc (.cells #[.pointer (some ⟨C, 1, none⟩)] 124) = wq := ⟨_, rfl⟩
  have hb1 : Below w.heap.size w wq := hwq ▸ below_alloc (below_alloc (Below.refl _ _) _) _
  have hbR2 : Boxed wq w.heap.size 60 (.pointer (some ⟨C, 0, none⟩)) := hwq ▸ hbR.alloc _
  have hbQ2 : Boxed wq (w.heap.size + 1) 124 (.pointer (some ⟨C, 1, none⟩)) := by
    have := Boxed.new (w.alloc (.cells #[.pointer (some ⟨C, 0, none⟩)] 60)) 124 (.pointer (some ⟨C, 1, none⟩))
    rw [hwq] at this
    simpa using this
  have HB0 := Aside0.mk (show BS h0 w0 wq wq C l 0 [] l from ⟨hS.kept hb1, Kept1.refl _ _, hok, rfl⟩)
  have HK0 := Aside0.mk ((Kept1.refl w C).below hb1)
  have HBR := Aside0.mk hbR2
  have HBQ := Aside0.mk hbQ2
  have HLT := Aside0.mk hlt
  have HW := Aside0.mk hwq
  clear hS hok hwq hb1 hbR hbR2 hbQ2 hlt
  go_enter Tryd.func51, Tryd.ntmps51
  go_wp2_with fail
  rw [HW.out]
  clear c1 HW
  go_loopw [18] (fun v18 wr => ∃ (k : Nat) (ns lk : List Int), k ≤ 7 ∧ ns.length = k ∧ v18 = .int .i64 k ∧ BS h0 w0 wq wr C l k ns lk) (fun v18 _ => 7 - (intOf v18).toNat)
  case atStart => exact ⟨0, [], l, Nat.zero_le _, rfl, rfl, HB0.out⟩
  case round =>
    obtain ⟨k, ns, lk, hk, hn, rfl, hbs⟩ := hrel
    have HBS := Aside0.mk hbs
    clear hbs HB0
    have c3 := (HBS.out.kept.box HBQ.out (by have := HLT.out; omega)).cell
    by_cases h7 : k = 7
    · subst h7
      have HH := Aside0.mk (show hdS callAsk l 0 = (ns, lk, 0) by rw [HBS.out.hd]; show (ns ++ [], lk, 0) = _; rw [List.append_nil])
      have cf : wr.cell? ⟨C, 5, none⟩ = some (.int .u32 (rd ns 6)) := HBS.out.st.cell 5 (by decide)
      have HB2 := Aside0.mk (show Below h0 w0 wr from HBS.out.st.bel)
      by_cases hf : 1 < rd ns 6
      · have q1 : decide (rd ns 6 > 1) = true := decide_eq_true hf
        have HF := Aside0.mk (show flaG (rd ns 6) 0 = 5 by unfold flaG; rw [if_pos rfl, if_pos hf])
        clear hf
        go_wp2
        go_ret
        rw [HH.out, HF.out]
        exact ⟨rfl, HK0.out.trans HBS.out.kept, HB2.out, fun _ => HBS.out.st⟩
      · have q1 : decide (rd ns 6 > 1) = false := decide_eq_false (by omega)
        have HF := Aside0.mk (show flaG (rd ns 6) 0 = 0 by unfold flaG; rw [if_pos rfl, if_neg hf])
        clear hf
        go_wp2
        go_ret
        rw [HH.out, HF.out]
        exact ⟨rfl, HK0.out.trans HBS.out.kept, HB2.out, fun _ => HBS.out.st⟩
    · have hk7 : k = 0 ∨ k = 1 ∨ k = 2 ∨ k = 3 ∨ k = 4 ∨ k = 5 ∨ k = 6 := by omega
      clear h7 hk
      rcases hk7 with rfl | rfl | rfl | rfl | rfl | rfl | rfl
      · obtain rfl : ns = [] := List.eq_nil_of_length_eq_zero hn
        have hix : ∀ W, (Instr.index 128 (.agg #[.func (.func 83) #[] #[.pointer (some ⟨w.heap.size, 0, none⟩), .pointer (some ⟨w.heap.size + 1, 0, none⟩)], .func (.func 85) #[] #[.pointer (some ⟨w.heap.size, 0, none⟩)], .func (.func 87) #[] #[.pointer (some ⟨w.heap.size, 0, none⟩)], .func (.func 88) #[] #[.pointer (some ⟨w.heap.size, 0, none⟩), .pointer (some ⟨w.heap.size + 1, 0, none⟩)], .func (.func 89) #[] #[.pointer (some ⟨w.heap.size, 0, none⟩), .pointer (some ⟨w.heap.size + 1, 0, none⟩)], .func (.func 90) #[] #[.pointer (some ⟨w.heap.size, 0, none⟩), .pointer (some ⟨w.heap.size + 1, 0, none⟩)], .func (.func 91) #[] #[.pointer (some ⟨w.heap.size, 0, none⟩), .pointer (some ⟨w.heap.size + 1, 0, none⟩)]]) (.int .i64 0)).run Tryd.prog W = .ok (.func (.func 83) #[] #[.pointer (some ⟨w.heap.size, 0, none⟩), .pointer (some ⟨w.heap.size + 1, 0, none⟩)]) W := fun _ => by kernel_rfl
        go_wp2_with fail
        refine (begins1_calls h0 w0 wr C w.heap.size (w.heap.size + 1) lk _ HBS.out.st HBS.out.ok (HBS.out.kept.box HBR.out (by have := HLT.out; omega)) (HBS.out.kept.box HBQ.out (by have := HLT.out; omega)) (by have := HLT.out; omega) (by have := HLT.out; omega)).mono ?_
        rintro y w2 ⟨rfl, hs2, hk2⟩
        obtain ⟨e1, he1⟩ : ∃ e1, (numG lk 0).2.2 = e1 := ⟨_, rfl⟩
        have hq1 : (if (numG lk 0).2.2 = 0 then askG none (numG lk 0).1 else (numG lk 0).2.2) = e1 := (ask_none _ _).trans he1
        rw [he1]
        clear he1
        by_cases hz : e1 = 0
        · subst hz
          have HN := Aside0.mk (bs_next HBS.out none [some 0, some 2, none, none, none, none] rfl rfl hq1 (show RS h0 w0 w2 C (numG lk 0).2.1 (rdA (rd ([] ++ [(numG lk 0).1]) 0) (rd ([] ++ [(numG lk 0).1]) 3) (rd ([] ++ [(numG lk 0).1]) 4) (rd ([] ++ [(numG lk 0).1]) 5) (rd ([] ++ [(numG lk 0).1]) 6) ByteArray.empty 0 0 0 (.slice none 0 0)) from hs2) hk2)
          clear hs2 hk2 hq1 c3 hix
          go_wp2
          go_roundw
          case rel => exact ⟨0 + 1, _, _, by omega, by simp, by go_num, HN.out⟩
          case measure => simp [intOf]
        · have HE := Aside0.mk (bs_err HBS.out none [some 0, some 2, none, none, none, none] rfl hq1 hz)
          have HF := Aside0.mk (show ∀ f, flaG f e1 = e1 from fun f => if_neg hz)
          have HS2 := Aside0.mk hs2.bel
          have HK2 := Aside0.mk (HK0.out.trans (HBS.out.kept.trans hk2))
          have HZ := Aside0.mk hz
          have q1 : (e1 != 0) = true := bne_iff_ne.mpr hz
          clear hs2 hk2 hq1 hz c3 hix
          go_wp2
          go_ret
          rw [HE.out, HF.out]
          exact ⟨rfl, HK2.out, HS2.out, fun h => absurd h HZ.out⟩
      · obtain ⟨n0, rfl⟩ : ∃ n0 : Int, ns = [n0] := by
          match ns, hn with | [n0], _ => exact ⟨n0, rfl⟩
        have hix : ∀ W, (Instr.index 128 (.agg #[.func (.func 83) #[] #[.pointer (some ⟨w.heap.size, 0, none⟩), .pointer (some ⟨w.heap.size + 1, 0, none⟩)], .func (.func 85) #[] #[.pointer (some ⟨w.heap.size, 0, none⟩)], .func (.func 87) #[] #[.pointer (some ⟨w.heap.size, 0, none⟩)], .func (.func 88) #[] #[.pointer (some ⟨w.heap.size, 0, none⟩), .pointer (some ⟨w.heap.size + 1, 0, none⟩)], .func (.func 89) #[] #[.pointer (some ⟨w.heap.size, 0, none⟩), .pointer (some ⟨w.heap.size + 1, 0, none⟩)], .func (.func 90) #[] #[.pointer (some ⟨w.heap.size, 0, none⟩), .pointer (some ⟨w.heap.size + 1, 0, none⟩)], .func (.func 91) #[] #[.pointer (some ⟨w.heap.size, 0, none⟩), .pointer (some ⟨w.heap.size + 1, 0, none⟩)]]) (.int .i64 1)).run Tryd.prog W = .ok (.func (.func 85) #[] #[.pointer (some ⟨w.heap.size, 0, none⟩)]) W := fun _ => by kernel_rfl
        go_wp2_with fail
        refine (begins2_calls h0 w0 wr C w.heap.size lk _ HBS.out.st HBS.out.ok (HBS.out.kept.box HBR.out (by have := HLT.out; omega))).mono ?_
        rintro y w2 ⟨rfl, hs2, hk2⟩
        obtain ⟨e1, he1⟩ : ∃ e1, mustE 0 lk 0 = e1 := ⟨_, rfl⟩
        have hq1 : (if (numG lk 0).2.2 = 0 then askG (some 0) (numG lk 0).1 else (numG lk 0).2.2) = e1 := he1
        rw [he1]
        clear he1
        by_cases hz : e1 = 0
        · subst hz
          have HN := Aside0.mk (bs_next HBS.out (some 0) [some 2, none, none, none, none] rfl rfl hq1 (show RS h0 w0 w2 C (numG lk 0).2.1 (rdA (rd ([n0] ++ [(numG lk 0).1]) 0) (rd ([n0] ++ [(numG lk 0).1]) 3) (rd ([n0] ++ [(numG lk 0).1]) 4) (rd ([n0] ++ [(numG lk 0).1]) 5) (rd ([n0] ++ [(numG lk 0).1]) 6) ByteArray.empty 0 0 0 (.slice none 0 0)) from hs2) hk2)
          clear hs2 hk2 hq1 c3 hix
          go_wp2
          go_roundw
          case rel => exact ⟨1 + 1, _, _, by omega, by simp, by go_num, HN.out⟩
          case measure => simp [intOf]
        · have HE := Aside0.mk (bs_err HBS.out (some 0) [some 2, none, none, none, none] rfl hq1 hz)
          have HF := Aside0.mk (show ∀ f, flaG f e1 = e1 from fun f => if_neg hz)
          have HS2 := Aside0.mk hs2.bel
          have HK2 := Aside0.mk (HK0.out.trans (HBS.out.kept.trans hk2))
          have HZ := Aside0.mk hz
          have q1 : (e1 != 0) = true := bne_iff_ne.mpr hz
          clear hs2 hk2 hq1 hz c3 hix
          go_wp2
          go_ret
          rw [HE.out, HF.out]
          exact ⟨rfl, HK2.out, HS2.out, fun h => absurd h HZ.out⟩
      · obtain ⟨n0, n1, rfl⟩ : ∃ n0 n1 : Int, ns = [n0, n1] := by
          match ns, hn with | [n0, n1], _ => exact ⟨n0, n1, rfl⟩
        have hix : ∀ W, (Instr.index 128 (.agg #[.func (.func 83) #[] #[.pointer (some ⟨w.heap.size, 0, none⟩), .pointer (some ⟨w.heap.size + 1, 0, none⟩)], .func (.func 85) #[] #[.pointer (some ⟨w.heap.size, 0, none⟩)], .func (.func 87) #[] #[.pointer (some ⟨w.heap.size, 0, none⟩)], .func (.func 88) #[] #[.pointer (some ⟨w.heap.size, 0, none⟩), .pointer (some ⟨w.heap.size + 1, 0, none⟩)], .func (.func 89) #[] #[.pointer (some ⟨w.heap.size, 0, none⟩), .pointer (some ⟨w.heap.size + 1, 0, none⟩)], .func (.func 90) #[] #[.pointer (some ⟨w.heap.size, 0, none⟩), .pointer (some ⟨w.heap.size + 1, 0, none⟩)], .func (.func 91) #[] #[.pointer (some ⟨w.heap.size, 0, none⟩), .pointer (some ⟨w.heap.size + 1, 0, none⟩)]]) (.int .i64 2)).run Tryd.prog W = .ok (.func (.func 87) #[] #[.pointer (some ⟨w.heap.size, 0, none⟩)]) W := fun _ => by kernel_rfl
        go_wp2_with fail
        refine (begins3_calls h0 w0 wr C w.heap.size lk _ HBS.out.st HBS.out.ok (HBS.out.kept.box HBR.out (by have := HLT.out; omega))).mono ?_
        rintro y w2 ⟨rfl, hs2, hk2⟩
        obtain ⟨e1, he1⟩ : ∃ e1, mustE 2 lk 0 = e1 := ⟨_, rfl⟩
        have hq1 : (if (numG lk 0).2.2 = 0 then askG (some 2) (numG lk 0).1 else (numG lk 0).2.2) = e1 := he1
        rw [he1]
        clear he1
        by_cases hz : e1 = 0
        · subst hz
          have HN := Aside0.mk (bs_next HBS.out (some 2) [none, none, none, none] rfl rfl hq1 (show RS h0 w0 w2 C (numG lk 0).2.1 (rdA (rd ([n0, n1] ++ [(numG lk 0).1]) 0) (rd ([n0, n1] ++ [(numG lk 0).1]) 3) (rd ([n0, n1] ++ [(numG lk 0).1]) 4) (rd ([n0, n1] ++ [(numG lk 0).1]) 5) (rd ([n0, n1] ++ [(numG lk 0).1]) 6) ByteArray.empty 0 0 0 (.slice none 0 0)) from hs2) hk2)
          clear hs2 hk2 hq1 c3 hix
          go_wp2
          go_roundw
          case rel => exact ⟨2 + 1, _, _, by omega, by simp, by go_num, HN.out⟩
          case measure => simp [intOf]
        · have HE := Aside0.mk (bs_err HBS.out (some 2) [none, none, none, none] rfl hq1 hz)
          have HF := Aside0.mk (show ∀ f, flaG f e1 = e1 from fun f => if_neg hz)
          have HS2 := Aside0.mk hs2.bel
          have HK2 := Aside0.mk (HK0.out.trans (HBS.out.kept.trans hk2))
          have HZ := Aside0.mk hz
          have q1 : (e1 != 0) = true := bne_iff_ne.mpr hz
          clear hs2 hk2 hq1 hz c3 hix
          go_wp2
          go_ret
          rw [HE.out, HF.out]
          exact ⟨rfl, HK2.out, HS2.out, fun h => absurd h HZ.out⟩
      · obtain ⟨n0, n1, n2, rfl⟩ : ∃ n0 n1 n2 : Int, ns = [n0, n1, n2] := by
          match ns, hn with | [n0, n1, n2], _ => exact ⟨n0, n1, n2, rfl⟩
        have hix : ∀ W, (Instr.index 128 (.agg #[.func (.func 83) #[] #[.pointer (some ⟨w.heap.size, 0, none⟩), .pointer (some ⟨w.heap.size + 1, 0, none⟩)], .func (.func 85) #[] #[.pointer (some ⟨w.heap.size, 0, none⟩)], .func (.func 87) #[] #[.pointer (some ⟨w.heap.size, 0, none⟩)], .func (.func 88) #[] #[.pointer (some ⟨w.heap.size, 0, none⟩), .pointer (some ⟨w.heap.size + 1, 0, none⟩)], .func (.func 89) #[] #[.pointer (some ⟨w.heap.size, 0, none⟩), .pointer (some ⟨w.heap.size + 1, 0, none⟩)], .func (.func 90) #[] #[.pointer (some ⟨w.heap.size, 0, none⟩), .pointer (some ⟨w.heap.size + 1, 0, none⟩)], .func (.func 91) #[] #[.pointer (some ⟨w.heap.size, 0, none⟩), .pointer (some ⟨w.heap.size + 1, 0, none⟩)]]) (.int .i64 3)).run Tryd.prog W = .ok (.func (.func 88) #[] #[.pointer (some ⟨w.heap.size, 0, none⟩), .pointer (some ⟨w.heap.size + 1, 0, none⟩)]) W := fun _ => by kernel_rfl
        go_wp2_with fail
        refine (begins4_calls h0 w0 wr C w.heap.size (w.heap.size + 1) lk _ HBS.out.st HBS.out.ok (HBS.out.kept.box HBR.out (by have := HLT.out; omega)) (HBS.out.kept.box HBQ.out (by have := HLT.out; omega)) (by have := HLT.out; omega) (by have := HLT.out; omega)).mono ?_
        rintro y w2 ⟨rfl, hs2, hk2⟩
        obtain ⟨e1, he1⟩ : ∃ e1, (numG lk 0).2.2 = e1 := ⟨_, rfl⟩
        have hq1 : (if (numG lk 0).2.2 = 0 then askG none (numG lk 0).1 else (numG lk 0).2.2) = e1 := (ask_none _ _).trans he1
        rw [he1]
        clear he1
        by_cases hz : e1 = 0
        · subst hz
          have HN := Aside0.mk (bs_next HBS.out none [none, none, none] rfl rfl hq1 (show RS h0 w0 w2 C (numG lk 0).2.1 (rdA (rd ([n0, n1, n2] ++ [(numG lk 0).1]) 0) (rd ([n0, n1, n2] ++ [(numG lk 0).1]) 3) (rd ([n0, n1, n2] ++ [(numG lk 0).1]) 4) (rd ([n0, n1, n2] ++ [(numG lk 0).1]) 5) (rd ([n0, n1, n2] ++ [(numG lk 0).1]) 6) ByteArray.empty 0 0 0 (.slice none 0 0)) from hs2) hk2)
          clear hs2 hk2 hq1 c3 hix
          go_wp2
          go_roundw
          case rel => exact ⟨3 + 1, _, _, by omega, by simp, by go_num, HN.out⟩
          case measure => simp [intOf]
        · have HE := Aside0.mk (bs_err HBS.out none [none, none, none] rfl hq1 hz)
          have HF := Aside0.mk (show ∀ f, flaG f e1 = e1 from fun f => if_neg hz)
          have HS2 := Aside0.mk hs2.bel
          have HK2 := Aside0.mk (HK0.out.trans (HBS.out.kept.trans hk2))
          have HZ := Aside0.mk hz
          have q1 : (e1 != 0) = true := bne_iff_ne.mpr hz
          clear hs2 hk2 hq1 hz c3 hix
          go_wp2
          go_ret
          rw [HE.out, HF.out]
          exact ⟨rfl, HK2.out, HS2.out, fun h => absurd h HZ.out⟩
      · obtain ⟨n0, n1, n2, n3, rfl⟩ : ∃ n0 n1 n2 n3 : Int, ns = [n0, n1, n2, n3] := by
          match ns, hn with | [n0, n1, n2, n3], _ => exact ⟨n0, n1, n2, n3, rfl⟩
        have hix : ∀ W, (Instr.index 128 (.agg #[.func (.func 83) #[] #[.pointer (some ⟨w.heap.size, 0, none⟩), .pointer (some ⟨w.heap.size + 1, 0, none⟩)], .func (.func 85) #[] #[.pointer (some ⟨w.heap.size, 0, none⟩)], .func (.func 87) #[] #[.pointer (some ⟨w.heap.size, 0, none⟩)], .func (.func 88) #[] #[.pointer (some ⟨w.heap.size, 0, none⟩), .pointer (some ⟨w.heap.size + 1, 0, none⟩)], .func (.func 89) #[] #[.pointer (some ⟨w.heap.size, 0, none⟩), .pointer (some ⟨w.heap.size + 1, 0, none⟩)], .func (.func 90) #[] #[.pointer (some ⟨w.heap.size, 0, none⟩), .pointer (some ⟨w.heap.size + 1, 0, none⟩)], .func (.func 91) #[] #[.pointer (some ⟨w.heap.size, 0, none⟩), .pointer (some ⟨w.heap.size + 1, 0, none⟩)]]) (.int .i64 4)).run Tryd.prog W = .ok (.func (.func 89) #[] #[.pointer (some ⟨w.heap.size, 0, none⟩), .pointer (some ⟨w.heap.size + 1, 0, none⟩)]) W := fun _ => by kernel_rfl
        go_wp2_with fail
        refine (begins5_calls h0 w0 wr C w.heap.size (w.heap.size + 1) lk _ HBS.out.st HBS.out.ok (HBS.out.kept.box HBR.out (by have := HLT.out; omega)) (HBS.out.kept.box HBQ.out (by have := HLT.out; omega)) (by have := HLT.out; omega) (by have := HLT.out; omega)).mono ?_
        rintro y w2 ⟨rfl, hs2, hk2⟩
        obtain ⟨e1, he1⟩ : ∃ e1, (numG lk 0).2.2 = e1 := ⟨_, rfl⟩
        have hq1 : (if (numG lk 0).2.2 = 0 then askG none (numG lk 0).1 else (numG lk 0).2.2) = e1 := (ask_none _ _).trans he1
        rw [he1]
        clear he1
        by_cases hz : e1 = 0
        · subst hz
          have HN := Aside0.mk (bs_next HBS.out none [none, none] rfl rfl hq1 (show RS h0 w0 w2 C (numG lk 0).2.1 (rdA (rd ([n0, n1, n2, n3] ++ [(numG lk 0).1]) 0) (rd ([n0, n1, n2, n3] ++ [(numG lk 0).1]) 3) (rd ([n0, n1, n2, n3] ++ [(numG lk 0).1]) 4) (rd ([n0, n1, n2, n3] ++ [(numG lk 0).1]) 5) (rd ([n0, n1, n2, n3] ++ [(numG lk 0).1]) 6) ByteArray.empty 0 0 0 (.slice none 0 0)) from hs2) hk2)
          clear hs2 hk2 hq1 c3 hix
          go_wp2
          go_roundw
          case rel => exact ⟨4 + 1, _, _, by omega, by simp, by go_num, HN.out⟩
          case measure => simp [intOf]
        · have HE := Aside0.mk (bs_err HBS.out none [none, none] rfl hq1 hz)
          have HF := Aside0.mk (show ∀ f, flaG f e1 = e1 from fun f => if_neg hz)
          have HS2 := Aside0.mk hs2.bel
          have HK2 := Aside0.mk (HK0.out.trans (HBS.out.kept.trans hk2))
          have HZ := Aside0.mk hz
          have q1 : (e1 != 0) = true := bne_iff_ne.mpr hz
          clear hs2 hk2 hq1 hz c3 hix
          go_wp2
          go_ret
          rw [HE.out, HF.out]
          exact ⟨rfl, HK2.out, HS2.out, fun h => absurd h HZ.out⟩
      · obtain ⟨n0, n1, n2, n3, n4, rfl⟩ : ∃ n0 n1 n2 n3 n4 : Int, ns = [n0, n1, n2, n3, n4] := by
          match ns, hn with | [n0, n1, n2, n3, n4], _ => exact ⟨n0, n1, n2, n3, n4, rfl⟩
        have hix : ∀ W, (Instr.index 128 (.agg #[.func (.func 83) #[] #[.pointer (some ⟨w.heap.size, 0, none⟩), .pointer (some ⟨w.heap.size + 1, 0, none⟩)], .func (.func 85) #[] #[.pointer (some ⟨w.heap.size, 0, none⟩)], .func (.func 87) #[] #[.pointer (some ⟨w.heap.size, 0, none⟩)], .func (.func 88) #[] #[.pointer (some ⟨w.heap.size, 0, none⟩), .pointer (some ⟨w.heap.size + 1, 0, none⟩)], .func (.func 89) #[] #[.pointer (some ⟨w.heap.size, 0, none⟩), .pointer (some ⟨w.heap.size + 1, 0, none⟩)], .func (.func 90) #[] #[.pointer (some ⟨w.heap.size, 0, none⟩), .pointer (some ⟨w.heap.size + 1, 0, none⟩)], .func (.func 91) #[] #[.pointer (some ⟨w.heap.size, 0, none⟩), .pointer (some ⟨w.heap.size + 1, 0, none⟩)]]) (.int .i64 5)).run Tryd.prog W = .ok (.func (.func 90) #[] #[.pointer (some ⟨w.heap.size, 0, none⟩), .pointer (some ⟨w.heap.size + 1, 0, none⟩)]) W := fun _ => by kernel_rfl
        go_wp2_with fail
        refine (begins6_calls h0 w0 wr C w.heap.size (w.heap.size + 1) lk _ HBS.out.st HBS.out.ok (HBS.out.kept.box HBR.out (by have := HLT.out; omega)) (HBS.out.kept.box HBQ.out (by have := HLT.out; omega)) (by have := HLT.out; omega) (by have := HLT.out; omega)).mono ?_
        rintro y w2 ⟨rfl, hs2, hk2⟩
        obtain ⟨e1, he1⟩ : ∃ e1, (numG lk 0).2.2 = e1 := ⟨_, rfl⟩
        have hq1 : (if (numG lk 0).2.2 = 0 then askG none (numG lk 0).1 else (numG lk 0).2.2) = e1 := (ask_none _ _).trans he1
        rw [he1]
        clear he1
        by_cases hz : e1 = 0
        · subst hz
          have HN := Aside0.mk (bs_next HBS.out none [none] rfl rfl hq1 (show RS h0 w0 w2 C (numG lk 0).2.1 (rdA (rd ([n0, n1, n2, n3, n4] ++ [(numG lk 0).1]) 0) (rd ([n0, n1, n2, n3, n4] ++ [(numG lk 0).1]) 3) (rd ([n0, n1, n2, n3, n4] ++ [(numG lk 0).1]) 4) (rd ([n0, n1, n2, n3, n4] ++ [(numG lk 0).1]) 5) (rd ([n0, n1, n2, n3, n4] ++ [(numG lk 0).1]) 6) ByteArray.empty 0 0 0 (.slice none 0 0)) from hs2) hk2)
          clear hs2 hk2 hq1 c3 hix
          go_wp2
          go_roundw
          case rel => exact ⟨5 + 1, _, _, by omega, by simp, by go_num, HN.out⟩
          case measure => simp [intOf]
        · have HE := Aside0.mk (bs_err HBS.out none [none] rfl hq1 hz)
          have HF := Aside0.mk (show ∀ f, flaG f e1 = e1 from fun f => if_neg hz)
          have HS2 := Aside0.mk hs2.bel
          have HK2 := Aside0.mk (HK0.out.trans (HBS.out.kept.trans hk2))
          have HZ := Aside0.mk hz
          have q1 : (e1 != 0) = true := bne_iff_ne.mpr hz
          clear hs2 hk2 hq1 hz c3 hix
          go_wp2
          go_ret
          rw [HE.out, HF.out]
          exact ⟨rfl, HK2.out, HS2.out, fun h => absurd h HZ.out⟩
      · obtain ⟨n0, n1, n2, n3, n4, n5, rfl⟩ : ∃ n0 n1 n2 n3 n4 n5 : Int, ns = [n0, n1, n2, n3, n4, n5] := by
          match ns, hn with | [n0, n1, n2, n3, n4, n5], _ => exact ⟨n0, n1, n2, n3, n4, n5, rfl⟩
        have hix : ∀ W, (Instr.index 128 (.agg #[.func (.func 83) #[] #[.pointer (some ⟨w.heap.size, 0, none⟩), .pointer (some ⟨w.heap.size + 1, 0, none⟩)], .func (.func 85) #[] #[.pointer (some ⟨w.heap.size, 0, none⟩)], .func (.func 87) #[] #[.pointer (some ⟨w.heap.size, 0, none⟩)], .func (.func 88) #[] #[.pointer (some ⟨w.heap.size, 0, none⟩), .pointer (some ⟨w.heap.size + 1, 0, none⟩)], .func (.func 89) #[] #[.pointer (some ⟨w.heap.size, 0, none⟩), .pointer (some ⟨w.heap.size + 1, 0, none⟩)], .func (.func 90) #[] #[.pointer (some ⟨w.heap.size, 0, none⟩), .pointer (some ⟨w.heap.size + 1, 0, none⟩)], .func (.func 91) #[] #[.pointer (some ⟨w.heap.size, 0, none⟩), .pointer (some ⟨w.heap.size + 1, 0, none⟩)]]) (.int .i64 6)).run Tryd.prog W = .ok (.func (.func 91) #[] #[.pointer (some ⟨w.heap.size, 0, none⟩), .pointer (some ⟨w.heap.size + 1, 0, none⟩)]) W := fun _ => by kernel_rfl
        go_wp2_with fail
        refine (begins7_calls h0 w0 wr C w.heap.size (w.heap.size + 1) lk _ HBS.out.st HBS.out.ok (HBS.out.kept.box HBR.out (by have := HLT.out; omega)) (HBS.out.kept.box HBQ.out (by have := HLT.out; omega)) (by have := HLT.out; omega) (by have := HLT.out; omega)).mono ?_
        rintro y w2 ⟨rfl, hs2, hk2⟩
        obtain ⟨e1, he1⟩ : ∃ e1, (numG lk 0).2.2 = e1 := ⟨_, rfl⟩
        have hq1 : (if (numG lk 0).2.2 = 0 then askG none (numG lk 0).1 else (numG lk 0).2.2) = e1 := (ask_none _ _).trans he1
        rw [he1]
        clear he1
        by_cases hz : e1 = 0
        · subst hz
          have HN := Aside0.mk (bs_next HBS.out none [] rfl rfl hq1 (show RS h0 w0 w2 C (numG lk 0).2.1 (rdA (rd ([n0, n1, n2, n3, n4, n5] ++ [(numG lk 0).1]) 0) (rd ([n0, n1, n2, n3, n4, n5] ++ [(numG lk 0).1]) 3) (rd ([n0, n1, n2, n3, n4, n5] ++ [(numG lk 0).1]) 4) (rd ([n0, n1, n2, n3, n4, n5] ++ [(numG lk 0).1]) 5) (rd ([n0, n1, n2, n3, n4, n5] ++ [(numG lk 0).1]) 6) ByteArray.empty 0 0 0 (.slice none 0 0)) from hs2) hk2)
          clear hs2 hk2 hq1 c3 hix
          go_wp2
          go_roundw
          case rel => exact ⟨6 + 1, _, _, by omega, by simp, by go_num, HN.out⟩
          case measure => simp [intOf]
        · have HE := Aside0.mk (bs_err HBS.out none [] rfl hq1 hz)
          have HF := Aside0.mk (show ∀ f, flaG f e1 = e1 from fun f => if_neg hz)
          have HS2 := Aside0.mk hs2.bel
          have HK2 := Aside0.mk (HK0.out.trans (HBS.out.kept.trans hk2))
          have HZ := Aside0.mk hz
          have q1 : (e1 != 0) = true := bne_iff_ne.mpr hz
          clear hs2 hk2 hq1 hz c3 hix
          go_wp2
          go_ret
          rw [HE.out, HF.out]
          exact ⟨rfl, HK2.out, HS2.out, fun h => absurd h HZ.out⟩

/-- A call's block. -/
def Blk11 (w : World) (C : Nat) (a : Array Value) : Prop := w.heap[C]? = some (.cells a 28 (0, 0))
theorem Blk11.cell {w : World} {C : Nat} {a : Array Value} (h : Blk11 w C a) (i : Nat) : w.cell? ⟨C, i, none⟩ = a[i]? := by simp [World.cell?, show w.heap[C]? = _ from h]
theorem Blk11.fz {w : World} {C : Nat} {a : Array Value} (h : Blk11 w C a) (i : Nat) : w.frozen? ⟨C, i, none⟩ = false := by simp [World.frozen?, show w.heap[C]? = _ from h]
theorem Blk11.set {w : World} {C : Nat} {a : Array Value} (h : Blk11 w C a) (i : Nat) (x : Value) : Blk11 (w.setCell ⟨C, i, none⟩ x) C (a.setIfInBounds i x) := by
  obtain ⟨hlt, hk⟩ := Array.getElem?_eq_some_iff.1 h
  show (w.heap.modify C _)[C]? = _
  rw [Array.getElem?_eq_getElem (by rw [Array.size_modify]; exact hlt), Array.getElem_modify_self, hk]
  rfl
theorem R_kept1 {α : Type} {d : Kd α} {e : TypeId} {W w1 : World} {base C : Nat} {v : Value} {xs : List α} (h : d.R e W base (fun _ => True) v xs) (hk : Kept1 W w1 C) (hC : C < base) : d.R e w1 base (fun _ => True) v xs :=
  Kd.R_mono (Kd.R_step (Kd.R_bound h) (fun k hk' hlt => hk.2 k hlt (by have := hk'.2.1; omega))) (fun _ _ => trivial)
theorem gate_load11 {P : Program} {ops : Array Oper} {rest : List Oper} {o : Oper} {a : Act} {Q : Exit → Act → World → Prop} {W : World} {t : TypeId} {p : Tmp} (_ho : o.op = .load t (.tmp p)) (h : wpList P ops Q (o :: rest) a W) : wpList P ops Q (o :: rest) a W := h
theorem setCells_heap (b : Nat) : ∀ (vs : List Value) (o : Nat) (W : World) (k : Nat), k ≠ b → (W.setCells b o vs).heap[k]? = W.heap[k]?
  | [], _, _, _, _ => rfl
  | v :: vs, o, W, k, h => by
    show ((W.setCell ⟨b, o, none⟩ v).setCells b (o + 1) vs).heap[k]? = _
    rw [setCells_heap b vs (o + 1) _ k h]
    exact Below.heap_setCell _ _ _ _ (by simpa using h)
theorem below_setCells {base : Nat} {w0 : World} (b : Nat) (hb : base ≤ b) : ∀ (vs : List Value) (o : Nat) (W : World), Below base w0 W → Below base w0 (W.setCells b o vs)
  | [], _, _, h => h
  | v :: vs, o, W, h => below_setCells b hb vs (o + 1) _ (h.setCell (p := ⟨b, o, none⟩) hb _)
theorem R_moved {α : Type} {d : Kd α} {e : TypeId} {W w1 : World} {base base' : Nat} {v : Value} {xs : List α} (h : d.R e W base (fun _ => True) v xs) (hk : ∀ k, base ≤ k → k < W.heap.size → w1.heap[k]? = W.heap[k]?) (hb : base' ≤ base) : d.R e w1 base' (fun _ => True) v xs :=
  Kd.R_lower (Kd.R_mono (Kd.R_step (Kd.R_bound h) (fun k hk' hlt => hk k hk'.2.1 hlt)) (fun _ _ => trivial)) hb
theorem numG_len (l : List Int) (e : Int) : (numG l e).2.1.length ≤ l.length := by
  unfold numG
  split
  · split
    · exact Nat.le_refl _
    · simp
  · exact Nat.le_refl _
theorem hdS_short : ∀ (ss : List (Option Int)) (l : List Int) (e : Int), (hdS ss l e).2.1.length ≤ l.length
  | [], _, _ => Nat.le_refl _
  | s :: ss, l, e => by unfold hdS; exact Nat.le_trans (hdS_short ss _ _) (numG_len l e)
theorem authG_len (l : List Int) (e : Int) : (authG l e).2.1.length ≤ l.length := by
  unfold authG
  split
  · split
    · simp
    · exact Nat.le_refl _
  · exact Nat.le_refl _
theorem whoG_len (f : Int) (l : List Int) (e : Int) : (whoG f l e).2.length ≤ l.length := by
  unfold whoG
  split
  · split <;> exact authG_len l e
  · exact authG_len l e
theorem sureG_len (l : List Int) (e : Int) : (sureG l e).1.length ≤ l.length := by
  unfold sureG; exact Nat.le_trans (authG_len _ _) (numG_len l e)
/-- Many cells of an array, one behind the other. -/
def setsA (a : Array Value) (o : Nat) : List Value → Array Value
  | [] => a
  | v :: vs => setsA (a.setIfInBounds o v) (o + 1) vs
theorem Blk11.sets {C : Nat} : ∀ (vs : List Value) (o : Nat) (a : Array Value) (W : World), Blk11 W C a → Blk11 (W.setCells C o vs) C (setsA a o vs)
  | [], _, _, _, h => h
  | v :: vs, o, _, _, h => Blk11.sets vs (o + 1) _ _ (h.set o v)
theorem sets11 (a0 a1 a2 a3 a4 a5 a6 a7 a8 a9 a10 b0 b1 b2 b3 b4 b5 b6 b7 b8 b9 b10 : Value) : setsA #[a0, a1, a2, a3, a4, a5, a6, a7, a8, a9, a10] 0 [b0, b1, b2, b3, b4, b5, b6, b7, b8, b9, b10] = #[b0, b1, b2, b3, b4, b5, b6, b7, b8, b9, b10] := by
  simp [setsA]
/-- Where Get stands at its label 'wrong'. -/
def GetJ (w : World) (A : Option Addr) (c : Nat) (l : List Int) (a' : Act) (w' : World) : Prop :=
  Below w.heap.size w w' ∧ ∃ (e : Int) (u6 u7 u8 u9 u10 u11 u12 u13 u14 u15 u16 u17 u18 u19 u20 u21 u22 u23 u24 u25 u26 u27 u28 u29 u30 u31 u32 u33 u34 u35 u36 u37 u38 u39 u40 u41 u42 u43 : Value), Aside0 (callG l = callZ e) ∧ Call11 w' w.heap.size 0 0 0 0 0 ByteArray.empty 0 0 0 (.slice none 0 0) (.slice none 0 0) ∧ a' = { tmps := #[.slice A l.length c, undef, .pointer (some ⟨w.heap.size, 0, none⟩), .int .i64 0, .pointer (some ⟨w.heap.size + 1, 0, none⟩), .int .i64 e, u6, u7, u8, u9, u10, u11, u12, u13, u14, u15, u16, u17, u18, u19, u20, u21, u22, u23, u24, u25, u26, u27, u28, u29, u30, u31, u32, u33, u34, u35, u36, u37, u38, u39, u40, u41, u42, u43], defers := [] }
theorem callH_fla {l : List Int} {e : Int} (h : flaG (rd (hdS callAsk l 0).1 6) (hdS callAsk l 0).2.2 = e) (hne : e ≠ 0) : callH l = callZ e := by
  unfold callH
  dsimp only
  rw [h, whoG_err _ hne, sureG_err _ hne, if_neg hne]
theorem callH_who {l : List Int} {e : Int} (h : flaG (rd (hdS callAsk l 0).1 6) (hdS callAsk l 0).2.2 = 0) (hw : (whoG (rd (hdS callAsk l 0).1 6) (hdS callAsk l 0).2.1 0).1.e = e) (hne : e ≠ 0) : callH l = callZ e := by
  unfold callH
  dsimp only
  rw [h, hw, sureG_err _ hne, if_neg hne]
theorem callH_sure {l : List Int} {e : Int} (h : flaG (rd (hdS callAsk l 0).1 6) (hdS callAsk l 0).2.2 = 0) (hw : (whoG (rd (hdS callAsk l 0).1 6) (hdS callAsk l 0).2.1 0).1.e = 0) (hs : (sureG (whoG (rd (hdS callAsk l 0).1 6) (hdS callAsk l 0).2.1 0).2 0).2 = e) (hne : e ≠ 0) : callH l = callZ e := by
  unfold callH
  dsimp only
  rw [h, hw, hs, if_neg hne]
/-- Where Get stands before its k-th reader. -/
def GSt (w w1 wr : World) (C : Nat) (l : List Int) (k : Nat) : Prop := Kept1 w1 wr C ∧ Below w.heap.size w wr ∧
  match k with
  | 0 => RS w.heap.size w wr C l (rdA 0 0 0 0 0 ByteArray.empty 0 0 0 (.slice none 0 0))
  | 1 => (hdS callAsk l 0).2.2 = 0 ∧ flaG (rd (hdS callAsk l 0).1 6) 0 = 0 ∧ RS w.heap.size w wr C (hdS callAsk l 0).2.1 (rdA (rd (hdS callAsk l 0).1 0) (rd (hdS callAsk l 0).1 3) (rd (hdS callAsk l 0).1 4) (rd (hdS callAsk l 0).1 5) (rd (hdS callAsk l 0).1 6) ByteArray.empty 0 0 0 (.slice none 0 0))
  | 2 => (hdS callAsk l 0).2.2 = 0 ∧ flaG (rd (hdS callAsk l 0).1 6) 0 = 0 ∧ (whoG (rd (hdS callAsk l 0).1 6) (hdS callAsk l 0).2.1 0).1.e = 0 ∧ ∃ Vg, RS w.heap.size w wr C (whoG (rd (hdS callAsk l 0).1 6) (hdS callAsk l 0).2.1 0).2 (rdA (rd (hdS callAsk l 0).1 0) (rd (hdS callAsk l 0).1 3) (rd (hdS callAsk l 0).1 4) (rd (hdS callAsk l 0).1 5) (rd (hdS callAsk l 0).1 6) (whoG (rd (hdS callAsk l 0).1 6) (hdS callAsk l 0).2.1 0).1.m (whoG (rd (hdS callAsk l 0).1 6) (hdS callAsk l 0).2.1 0).1.s (whoG (rd (hdS callAsk l 0).1 6) (hdS callAsk l 0).2.1 0).1.u (whoG (rd (hdS callAsk l 0).1 6) (hdS callAsk l 0).2.1 0).1.g Vg) ∧ Kd.R (Kd.int .u32) 22 wr (w.heap.size + 2) (fun _ => True) Vg (whoG (rd (hdS callAsk l 0).1 6) (hdS callAsk l 0).2.1 0).1.gs
  | 3 => (hdS callAsk l 0).2.2 = 0 ∧ flaG (rd (hdS callAsk l 0).1 6) 0 = 0 ∧ (whoG (rd (hdS callAsk l 0).1 6) (hdS callAsk l 0).2.1 0).1.e = 0 ∧ (sureG (whoG (rd (hdS callAsk l 0).1 6) (hdS callAsk l 0).2.1 0).2 0).2 = 0 ∧ ∃ Vg, RS w.heap.size w wr C (sureG (whoG (rd (hdS callAsk l 0).1 6) (hdS callAsk l 0).2.1 0).2 0).1 (rdA (rd (hdS callAsk l 0).1 0) (rd (hdS callAsk l 0).1 3) (rd (hdS callAsk l 0).1 4) (rd (hdS callAsk l 0).1 5) (rd (hdS callAsk l 0).1 6) (whoG (rd (hdS callAsk l 0).1 6) (hdS callAsk l 0).2.1 0).1.m (whoG (rd (hdS callAsk l 0).1 6) (hdS callAsk l 0).2.1 0).1.s (whoG (rd (hdS callAsk l 0).1 6) (hdS callAsk l 0).2.1 0).1.u (whoG (rd (hdS callAsk l 0).1 6) (hdS callAsk l 0).2.1 0).1.g Vg) ∧ Kd.R (Kd.int .u32) 22 wr (w.heap.size + 2) (fun _ => True) Vg (whoG (rd (hdS callAsk l 0).1 6) (hdS callAsk l 0).2.1 0).1.gs
  | _ => True
theorem gst3 {w w1 wr : World} {C : Nat} {l : List Int} (h : GSt w w1 wr C l 3) (hcg : callG l = callH l) : ∃ (x p v o f : Int) (m : ByteArray) (s u g : Int) (gs b : List Int) (Ag : Option Addr) (cg : Nat),
    callG l = ⟨x, p, v, o, f, m, s, u, g, gs, b, 0⟩ ∧ Kept1 w1 wr C ∧ Below w.heap.size w wr ∧ RS w.heap.size w wr C b (rdA x p v o f m s u g (.slice Ag gs.length cg)) ∧ Kd.R (Kd.int .u32) 22 wr (w.heap.size + 2) (fun _ => True) (.slice Ag gs.length cg) gs ∧ b.length ≤ l.length := by
  obtain ⟨g1, g2, hd0, hf0, hw0, hs0, Vg, hrs, hov⟩ := h
  obtain ⟨Ag, cg, rfl, _⟩ := Kd.R_reads hov
  refine ⟨_, _, _, _, _, _, _, _, _, _, _, Ag, cg, ?_, g1, g2, hrs, hov, Nat.le_trans (sureG_len _ _) (Nat.le_trans (whoG_len _ _ _) (hdS_short _ _ _))⟩
  rw [hcg]
  unfold callH
  dsimp only
  rw [hd0, hf0, hw0, if_pos hs0]
set_option maxHeartbeats 8000000 in
set_option maxRecDepth 100000 in
theorem calls_Get_calls (A : Option Addr) (c : Nat) (l : List Int) (w : World) (hR : RB w A l) (hc : l.length ≤ c) (hok : byteOk l = true) :
    Calls Tryd.prog 15 #[.slice A l.length c] w fun y w' => ∃ Vg Vb, y = .returned (.tuple #[.agg #[.int .u32 (callG l).x, .int .u32 (callG l).p, .int .u32 (callG l).v, .int .u32 (callG l).o, .int .u32 (callG l).f, .string (callG l).m, .int .u32 (callG l).s, .int .u32 (callG l).u, .int .u32 (callG l).g, Vg, Vb], .int .i64 (callG l).e]) ∧ Kd.R (Kd.int .u32) 22 w' w.heap.size (fun _ => True) Vg (callG l).gs ∧ Kd.R (Kd.int .u8) 5 w' w.heap.size (fun _ => True) Vb (callG l).b ∧ Below w.heap.size w w' := by
  have hb2 : Below w.heap.size w ((w.alloc (.cells #[.int .u32 0, .int .u32 0, .int .u32 0, .int .u32 0, .int .u32 0, .string ⟨#[]⟩, .int .u32 0, .int .u32 0, .int .u32 0, .slice none 0 0, .slice none 0 0] 28)).alloc (.cells #[.slice A l.length c, .int .u32 0, .int .u32 0, .int .u32 0, .int .u32 0, .int .u32 0, .string ⟨#[]⟩, .int .u32 0, .int .u32 0, .int .u32 0, .slice none 0 0, .slice none 0 0] 62)) := below_alloc (below_alloc (Below.refl _ _) _) _
  have hk0 : Call11 ((w.alloc (.cells #[.int .u32 0, .int .u32 0, .int .u32 0, .int .u32 0, .int .u32 0, .string ⟨#[]⟩, .int .u32 0, .int .u32 0, .int .u32 0, .slice none 0 0, .slice none 0 0] 28)).alloc (.cells #[.slice A l.length c, .int .u32 0, .int .u32 0, .int .u32 0, .int .u32 0, .int .u32 0, .string ⟨#[]⟩, .int .u32 0, .int .u32 0, .int .u32 0, .slice none 0 0, .slice none 0 0] 62)) w.heap.size 0 0 0 0 0 ByteArray.empty 0 0 0 (.slice none 0 0) (.slice none 0 0) :=
    (call11_new w 0 0 0 0 0 ByteArray.empty 0 0 0 (.slice none 0 0) (.slice none 0 0)).below (below_alloc (Below.refl _ _) _)
  have HOK := Aside0.mk hok
  have HB2 := Aside0.mk hb2
  have HK0 := Aside0.mk hk0
  clear hb2 hk0
  go_enter Tryd.func15, Tryd.ntmps15
  go_wp2
  refine wp_scope_jumps 0 (GetJ w A c l) (fun _ _ => 0) rfl ?_ ?_
  · by_cases hbig : 65536 < l.length
    · have HG := Aside0.mk (show callG l = callZ 3 by unfold callG; rw [if_pos hbig])
      have q1 : decide (65536 < (l.length : Int)) = true := decide_eq_true (by omega)
      clear hbig
      go_wp2
      go_step3
      refine ⟨rfl, HB2.out, 3, _, _, _, _, _, _, _, _, _, _, _, _, _, _, _, _, _, _, _, _, _, _, _, _, _, _, _, _, _, _, _, _, _, _, _, _, _, _, HG, HK0.out, rfl⟩
    · have hs0 : RS w.heap.size w ((w.alloc (.cells #[.int .u32 0, .int .u32 0, .int .u32 0, .int .u32 0, .int .u32 0, .string ⟨#[]⟩, .int .u32 0, .int .u32 0, .int .u32 0, .slice none 0 0, .slice none 0 0] 28)).alloc (.cells #[.slice A l.length c, .int .u32 0, .int .u32 0, .int .u32 0, .int .u32 0, .int .u32 0, .string ⟨#[]⟩, .int .u32 0, .int .u32 0, .int .u32 0, .slice none 0 0, .slice none 0 0] 62)) (w.heap.size + 1) l (rdA 0 0 0 0 0 ByteArray.empty 0 0 0 (.slice none 0 0)) :=
        ⟨⟨A, c, by
          have := World.alloc_heap_new (w.alloc (.cells #[.int .u32 0, .int .u32 0, .int .u32 0, .int .u32 0, .int .u32 0, .string ⟨#[]⟩, .int .u32 0, .int .u32 0, .int .u32 0, .slice none 0 0, .slice none 0 0] 28)) (.cells #[.slice A l.length c, .int .u32 0, .int .u32 0, .int .u32 0, .int .u32 0, .int .u32 0, .string ⟨#[]⟩, .int .u32 0, .int .u32 0, .int .u32 0, .slice none 0 0, .slice none 0 0] 62)
          rw [show (w.alloc (.cells #[.int .u32 0, .int .u32 0, .int .u32 0, .int .u32 0, .int .u32 0, .string ⟨#[]⟩, .int .u32 0, .int .u32 0, .int .u32 0, .slice none 0 0, .slice none 0 0] 28)).heap.size = w.heap.size + 1 by simp] at this
          exact this, hc, fun W h => Kd.C_below hR h⟩, rfl, by omega, HB2.out⟩
      have HCG := Aside0.mk (show callG l = callH l by unfold callG; rw [if_neg hbig])
      have HBG := Aside0.mk hbig
      obtain ⟨wq, hwq⟩ : ∃ wq, (w.alloc (.cells #[.int .u32 0, .int .u32 0, .int .u32 0, .int .u32 0, .int .u32 0, .string ⟨#[]⟩, .int .u32 0, .int .u32 0, .int .u32 0, .slice none 0 0, .slice none 0 0] 28)).alloc (.cells #[.slice A l.length c, .int .u32 0, .int .u32 0, .int .u32 0, .int .u32 0, .int .u32 0, .string ⟨#[]⟩, .int .u32 0, .int .u32 0, .int .u32 0, .slice none 0 0, .slice none 0 0] 62) = wq := ⟨_, rfl⟩
      rw [hwq] at hs0 HB2 HK0
      have HS0 := Aside0.mk (show GSt w wq wq (w.heap.size + 1) l 0 from ⟨Kept1.refl _ _, HB2.out, hs0⟩)
      have HW := Aside0.mk hwq
      have HQS := Aside0.mk (show w.heap.size + 2 ≤ wq.heap.size by rw [← hwq]; simp)
      have q1 : decide (65536 < (l.length : Int)) = false := decide_eq_false (by omega)
      clear hs0 hwq hbig
      go_wp2_with fail
      rw [HW.out]
      go_loopw [21] (fun v21 wr => ∃ k : Nat, k ≤ 3 ∧ v21 = .int .i64 k ∧ GSt w wq wr (w.heap.size + 1) l k) (fun v21 _ => 3 - (intOf v21).toNat)
      case atStart => exact ⟨0, Nat.zero_le _, rfl, HS0.out⟩
      case round =>
        obtain ⟨k, hk, rfl, hg⟩ := hrel
        have HGS := Aside0.mk hg
        clear hg HS0 q1 HW
        have hk4 : k = 0 ∨ k = 1 ∨ k = 2 ∨ k = 3 := by omega
        clear hk
        rcases hk4 with rfl | rfl | rfl | rfl
        · have hix : ∀ W, (Instr.index 64 (.agg #[.func (.func 51) #[.pointer (some ⟨w.heap.size + 1, 0, none⟩)] #[], .func (.func 52) #[.pointer (some ⟨w.heap.size + 1, 0, none⟩)] #[], .func (.func 53) #[.pointer (some ⟨w.heap.size + 1, 0, none⟩)] #[]]) (.int .i64 0)).run Tryd.prog W = .ok (.func (.func 51) #[.pointer (some ⟨w.heap.size + 1, 0, none⟩)] #[]) W := fun _ => by kernel_rfl
          go_wp2_with fail
          refine (begins_calls w.heap.size w wr (w.heap.size + 1) l HGS.out.2.2 HOK.out).mono ?_
          rintro y w2 ⟨rfl, hk2, hb2, hs2⟩
          have HK2 := Aside0.mk (HGS.out.1.trans hk2)
          have HBB2 := Aside0.mk hb2
          obtain ⟨e1, he1⟩ : ∃ e1, flaG (rd (hdS callAsk l 0).1 6) (hdS callAsk l 0).2.2 = e1 := ⟨_, rfl⟩
          rw [he1]
          by_cases hz : e1 = 0
          · subst hz
            have hz2 : (hdS callAsk l 0).2.2 = 0 := by
              by_cases h : (hdS callAsk l 0).2.2 = 0
              · exact h
              · unfold flaG at he1; rw [if_neg h] at he1; exact he1
            have HN := Aside0.mk (show GSt w wq w2 (w.heap.size + 1) l 1 from ⟨HK2.out, HBB2.out, hz2, by rw [hz2] at he1; exact he1, hs2 hz2⟩)
            clear hk2 hb2 hs2 he1 hz2 hix
            go_wp2
            go_roundw
            case rel => exact ⟨0 + 1, by omega, by go_num, HN.out⟩
            case measure => simp [intOf]
          · have HG := Aside0.mk (show callG l = callZ e1 by rw [HCG.out]; exact callH_fla he1 hz)
            have q1 : (e1 != 0) = true := bne_iff_ne.mpr hz
            have HKK := Aside0.mk (show Call11 w2 w.heap.size 0 0 0 0 0 ByteArray.empty 0 0 0 (.slice none 0 0) (.slice none 0 0) from (HK2.out.2 w.heap.size HK0.out.lt (by omega)).trans HK0.out)
            clear hk2 hb2 hs2 he1 hz hix
            go_wp2
            go_step3
            refine ⟨rfl, HBB2.out, e1, _, _, _, _, _, _, _, _, _, _, _, _, _, _, _, _, _, _, _, _, _, _, _, _, _, _, _, _, _, _, _, _, _, _, _, _, _, _, HG, HKK.out, rfl⟩
        · have hix : ∀ W, (Instr.index 64 (.agg #[.func (.func 51) #[.pointer (some ⟨w.heap.size + 1, 0, none⟩)] #[], .func (.func 52) #[.pointer (some ⟨w.heap.size + 1, 0, none⟩)] #[], .func (.func 53) #[.pointer (some ⟨w.heap.size + 1, 0, none⟩)] #[]]) (.int .i64 1)).run Tryd.prog W = .ok (.func (.func 52) #[.pointer (some ⟨w.heap.size + 1, 0, none⟩)] #[]) W := fun _ => by kernel_rfl
          obtain ⟨g1, g2, hd0, hf0, hrs⟩ := HGS.out
          have HG1 := Aside0.mk g1
          have HD0 := Aside0.mk hd0
          have HF0 := Aside0.mk hf0
          have HSZ := Aside0.mk (show w.heap.size + 2 ≤ wr.heap.size from Nat.le_trans HQS.out g1.1)
          have HWC := Aside0.mk (who_calls w.heap.size w wr (w.heap.size + 1) _ _ _ _ _ _ hrs (hdS_ok callAsk l 0 HOK.out))
          clear g1 g2 hd0 hf0 hrs HGS
          go_wp2_with fail
          refine HWC.out.mono ?_
          rintro y w2 ⟨rfl, Vg, hs2, ho2, hk2⟩
          have HK2 := Aside0.mk (HG1.out.trans hk2)
          have HBB2 := Aside0.mk hs2.bel
          obtain ⟨e1, he1⟩ : ∃ e1, (whoG (rd (hdS callAsk l 0).1 6) (hdS callAsk l 0).2.1 0).1.e = e1 := ⟨_, rfl⟩
          rw [he1]
          by_cases hz : e1 = 0
          · subst hz
            have HN := Aside0.mk (show GSt w wq w2 (w.heap.size + 1) l 2 from ⟨HK2.out, HBB2.out, HD0.out, HF0.out, he1, Vg, hs2, Kd.R_lower ho2 HSZ.out⟩)
            clear hk2 hs2 ho2 he1 hix
            go_wp2
            go_roundw
            case rel => exact ⟨1 + 1, by omega, by go_num, HN.out⟩
            case measure => simp [intOf]
          · have HG := Aside0.mk (show callG l = callZ e1 by rw [HCG.out]; exact callH_who (by rw [HD0.out]; exact HF0.out) he1 hz)
            have q1 : (e1 != 0) = true := bne_iff_ne.mpr hz
            have HKK := Aside0.mk (show Call11 w2 w.heap.size 0 0 0 0 0 ByteArray.empty 0 0 0 (.slice none 0 0) (.slice none 0 0) from (HK2.out.2 w.heap.size HK0.out.lt (by omega)).trans HK0.out)
            clear hk2 hs2 ho2 he1 hz hix
            go_wp2
            go_step3
            refine ⟨rfl, HBB2.out, e1, _, _, _, _, _, _, _, _, _, _, _, _, _, _, _, _, _, _, _, _, _, _, _, _, _, _, _, _, _, _, _, _, _, _, _, _, _, _, HG, HKK.out, rfl⟩
        · have hix : ∀ W, (Instr.index 64 (.agg #[.func (.func 51) #[.pointer (some ⟨w.heap.size + 1, 0, none⟩)] #[], .func (.func 52) #[.pointer (some ⟨w.heap.size + 1, 0, none⟩)] #[], .func (.func 53) #[.pointer (some ⟨w.heap.size + 1, 0, none⟩)] #[]]) (.int .i64 2)).run Tryd.prog W = .ok (.func (.func 53) #[.pointer (some ⟨w.heap.size + 1, 0, none⟩)] #[]) W := fun _ => by kernel_rfl
          obtain ⟨g1, g2, hd0, hf0, hw0, Vg, hrs, hov⟩ := HGS.out
          have HG1 := Aside0.mk g1
          have HD0 := Aside0.mk hd0
          have HF0 := Aside0.mk hf0
          have HW0 := Aside0.mk hw0
          have HOV := Aside0.mk hov
          have HWC := Aside0.mk (sure_calls w.heap.size w wr (w.heap.size + 1) _ _ hrs (whoG_ok (hdS_ok callAsk l 0 HOK.out) 0))
          clear g1 g2 hd0 hf0 hw0 hrs hov HGS
          go_wp2_with fail
          refine HWC.out.mono ?_
          rintro y w2 ⟨rfl, hs2, hk2⟩
          have HK2 := Aside0.mk (HG1.out.trans hk2)
          have HBB2 := Aside0.mk hs2.bel
          have HO2 := Aside0.mk (R_kept1 HOV.out hk2 (Nat.lt_succ_self _))
          obtain ⟨e1, he1⟩ : ∃ e1, (sureG (whoG (rd (hdS callAsk l 0).1 6) (hdS callAsk l 0).2.1 0).2 0).2 = e1 := ⟨_, rfl⟩
          rw [he1]
          by_cases hz : e1 = 0
          · subst hz
            have HN := Aside0.mk (show GSt w wq w2 (w.heap.size + 1) l 3 from ⟨HK2.out, HBB2.out, HD0.out, HF0.out, HW0.out, he1, Vg, hs2, HO2.out⟩)
            clear hk2 hs2 he1 hix
            go_wp2
            go_roundw
            case rel => exact ⟨2 + 1, by omega, by go_num, HN.out⟩
            case measure => simp [intOf]
          · have HG := Aside0.mk (show callG l = callZ e1 by rw [HCG.out]; exact callH_sure (by rw [HD0.out]; exact HF0.out) HW0.out he1 hz)
            have q1 : (e1 != 0) = true := bne_iff_ne.mpr hz
            have HKK := Aside0.mk (show Call11 w2 w.heap.size 0 0 0 0 0 ByteArray.empty 0 0 0 (.slice none 0 0) (.slice none 0 0) from (HK2.out.2 w.heap.size HK0.out.lt (by omega)).trans HK0.out)
            clear hk2 hs2 he1 hz hix
            go_wp2
            go_step3
            refine ⟨rfl, HBB2.out, e1, _, _, _, _, _, _, _, _, _, _, _, _, _, _, _, _, _, _, _, _, _, _, _, _, _, _, _, _, _, _, _, _, _, _, _, _, _, _, HG, HKK.out, rfl⟩
        · obtain ⟨x, p, v, o, f, m, s, u, g, gs, b, Ag, cg, hcg, g1, g2, hrs, hov, hbl⟩ := gst3 HGS.out HCG.out
          obtain ⟨Ab, cb, hrd0, hcb, hrb⟩ := hrs.got
          have hrd : Rd wr (w.heap.size + 1) #[.slice Ab b.length cb, .int .u32 x, .int .u32 p, .int .u32 v, .int .u32 o, .int .u32 f, .string m, .int .u32 s, .int .u32 u, .int .u32 g, .slice Ag gs.length cg, .slice none 0 0] := hrd0
          have c0 : wr.cell? ⟨w.heap.size + 1, 0, none⟩ = some (.slice Ab b.length cb) := hrd.cell 0
          have z0 := hrd.fz 0
          have HG1 := Aside0.mk g1
          have HG2 := Aside0.mk g2
          have HOV := Aside0.mk hov
          have HRD := Aside0.mk hrd
          have HCGV := Aside0.mk hcg
          have HCL := Aside0.mk (clone_calls Ab cb b wr (hrb wr g2) hcb (by have := HBG.out; omega))
          have hlt := hrd.lt
          have HLT := Aside0.mk hlt
          clear g1 g2 hrs hov hcg hrd hrd0 hcb hrb hbl HGS hlt
          go_wp2_with fail
          refine HCL.out.mono ?_
          rintro y w2 ⟨Vb, rfl, hob, hb2⟩
          obtain ⟨Ab2, cb2, rfl, _⟩ := OB_reads hob
          have hrd2 := HRD.out.below hb2
          have y11 : w2.cell? ⟨w.heap.size + 1, 11, none⟩ = some (.slice none 0 0) := hrd2.cell 11
          have z11 := hrd2.fz 11
          have hrd3 : Rd (w2.setCell ⟨w.heap.size + 1, 11, none⟩ (.slice Ab2 b.length cb2)) (w.heap.size + 1) #[.slice Ab b.length cb, .int .u32 x, .int .u32 p, .int .u32 v, .int .u32 o, .int .u32 f, .string m, .int .u32 s, .int .u32 u, .int .u32 g, .slice Ag gs.length cg, .slice Ab2 b.length cb2] := hrd2.set 11 _
          have hK2 : Blk11 (w2.setCell ⟨w.heap.size + 1, 11, none⟩ (.slice Ab2 b.length cb2)) w.heap.size #[.int .u32 0, .int .u32 0, .int .u32 0, .int .u32 0, .int .u32 0, .string ⟨#[]⟩, .int .u32 0, .int .u32 0, .int .u32 0, .slice none 0 0, .slice none 0 0] :=
            (Below.heap_setCell _ _ _ _ (by simp)).trans ((hb2.block _ (by have := HLT.out; omega)).trans ((HG1.out.2 w.heap.size HK0.out.lt (by omega)).trans HK0.out))
          have HBB := Aside0.mk (show Below w.heap.size w (w2.setCell ⟨w.heap.size + 1, 11, none⟩ (.slice Ab2 b.length cb2)) from (below_then HG2.out (by have := HLT.out; omega) hb2).setCell (p := ⟨w.heap.size + 1, 11, none⟩) (Nat.le_succ _) _)
          have HOG := Aside0.mk (R_moved (w1 := w2.setCell ⟨w.heap.size + 1, 11, none⟩ (.slice Ab2 b.length cb2)) HOV.out (fun k hk hlt => (Below.heap_setCell _ _ _ _ (by show k ≠ w.heap.size + 1; omega)).trans (hb2.block k hlt)) (Nat.le_refl _))
          have HOB := Aside0.mk (R_moved (w1 := w2.setCell ⟨w.heap.size + 1, 11, none⟩ (.slice Ab2 b.length cb2)) (base' := w.heap.size + 2) (show Kd.R (Kd.int .u8) 5 w2 wr.heap.size (fun _ => True) (.slice Ab2 b.length cb2) b from hob) (fun k hk hlt => Below.heap_setCell _ _ _ _ (by show k ≠ w.heap.size + 1; have := HLT.out; omega)) (by have := HLT.out; omega))
          have y1 : w2.cell? ⟨w.heap.size + 1, 1, none⟩ = some (.int .u32 x) := hrd2.cell 1
          have y2 : w2.cell? ⟨w.heap.size + 1, 2, none⟩ = some (.int .u32 p) := hrd2.cell 2
          have y3 : w2.cell? ⟨w.heap.size + 1, 3, none⟩ = some (.int .u32 v) := hrd2.cell 3
          have y4 : w2.cell? ⟨w.heap.size + 1, 4, none⟩ = some (.int .u32 o) := hrd2.cell 4
          have y5 : w2.cell? ⟨w.heap.size + 1, 5, none⟩ = some (.int .u32 f) := hrd2.cell 5
          have y6 : w2.cell? ⟨w.heap.size + 1, 6, none⟩ = some (.string m) := hrd2.cell 6
          have y7 : w2.cell? ⟨w.heap.size + 1, 7, none⟩ = some (.int .u32 s) := hrd2.cell 7
          have y8 : w2.cell? ⟨w.heap.size + 1, 8, none⟩ = some (.int .u32 u) := hrd2.cell 8
          have y9 : w2.cell? ⟨w.heap.size + 1, 9, none⟩ = some (.int .u32 g) := hrd2.cell 9
          have y10 : w2.cell? ⟨w.heap.size + 1, 10, none⟩ = some (.slice Ag gs.length cg) := hrd2.cell 10
          have HTH := Aside0.mk (show World.there (w2.setCell ⟨w.heap.size + 1, 11, none⟩ (.slice Ab2 b.length cb2)) w.heap.size 0 (#[.int .u32 x, .int .u32 p, .int .u32 v, .int .u32 o, .int .u32 f, .string m, .int .u32 s, .int .u32 u, .int .u32 g, .slice Ag gs.length cg, .slice Ab2 b.length cb2] : Array Value).size from fun j hj => ⟨by
            rw [show (0 + j) = j by omega, hK2.cell j, Array.getElem?_eq_getElem (by simpa using hj)]; rfl, by
            exact hK2.fz (0 + j)⟩)
          have HKB := Aside0.mk hK2
          clear hrd2 hrd3 hK2 hob hb2 HRD HCL HOV
          go_wp2_with (with_reducible refine gate_store (t := 28) rfl ?_; refine wpList_store_mid rfl 28 (.tmp 2) (.tmp 41) rfl w.heap.size 0 #[.int .u32 x, .int .u32 p, .int .u32 v, .int .u32 o, .int .u32 f, .string m, .int .u32 s, .int .u32 u, .int .u32 g, .slice Ag gs.length cg, .slice Ab2 b.length cb2] rfl rfl HTH.out (by kernel_rfl) (by simp [Value.oneCell']) ?_; generalize hws : World.setCells (w2.setCell ⟨w.heap.size + 1, 11, none⟩ (.slice Ab2 b.length cb2)) w.heap.size 0 _ = ws)
          have kz : Blk11 ws w.heap.size #[.int .u32 x, .int .u32 p, .int .u32 v, .int .u32 o, .int .u32 f, .string m, .int .u32 s, .int .u32 u, .int .u32 g, .slice Ag gs.length cg, .slice Ab2 b.length cb2] := by
            have h := Blk11.sets [.int .u32 x, .int .u32 p, .int .u32 v, .int .u32 o, .int .u32 f, .string m, .int .u32 s, .int .u32 u, .int .u32 g, .slice Ag gs.length cg, .slice Ab2 b.length cb2] 0 _ _ HKB.out
            rw [sets11] at h
            rw [← hws]
            exact h
          have HBZ : Below w.heap.size w ws := by rw [← hws]; exact below_setCells w.heap.size (Nat.le_refl _) _ _ _ HBB.out
          have hmv : ∀ k, w.heap.size + 2 ≤ k → ws.heap[k]? = (w2.setCell ⟨w.heap.size + 1, 11, none⟩ (.slice Ab2 b.length cb2)).heap[k]? := fun k hk => by rw [← hws]; exact setCells_heap _ _ _ _ _ (by omega)
          have HOG2 := R_moved (w1 := ws) (base' := w.heap.size) HOG.out (fun k hk _ => hmv k hk) (by omega)
          have HOB2 := R_moved (w1 := ws) (base' := w.heap.size) HOB.out (fun k hk _ => hmv k hk) (by omega)
          have r0 : ws.cell? ⟨w.heap.size, 0, none⟩ = some (.int .u32 x) := kz.cell 0
          have r1 : ws.cell? ⟨w.heap.size, 1, none⟩ = some (.int .u32 p) := kz.cell 1
          have r2 : ws.cell? ⟨w.heap.size, 2, none⟩ = some (.int .u32 v) := kz.cell 2
          have r3 : ws.cell? ⟨w.heap.size, 3, none⟩ = some (.int .u32 o) := kz.cell 3
          have r4 : ws.cell? ⟨w.heap.size, 4, none⟩ = some (.int .u32 f) := kz.cell 4
          have r5 : ws.cell? ⟨w.heap.size, 5, none⟩ = some (.string m) := kz.cell 5
          have r6 : ws.cell? ⟨w.heap.size, 6, none⟩ = some (.int .u32 s) := kz.cell 6
          have r7 : ws.cell? ⟨w.heap.size, 7, none⟩ = some (.int .u32 u) := kz.cell 7
          have r8 : ws.cell? ⟨w.heap.size, 8, none⟩ = some (.int .u32 g) := kz.cell 8
          have r9 : ws.cell? ⟨w.heap.size, 9, none⟩ = some (.slice Ag gs.length cg) := kz.cell 9
          have r10 : ws.cell? ⟨w.heap.size, 10, none⟩ = some (.slice Ab2 b.length cb2) := kz.cell 10
          simp only [Exit.jump]
          have hcg := HCGV.out
          refine bodyPost_ret (v := .tuple #[.agg #[.int .u32 x, .int .u32 p, .int .u32 v, .int .u32 o, .int .u32 f, .string m, .int .u32 s, .int .u32 u, .int .u32 g, .slice Ag gs.length cg, .slice Ab2 b.length cb2], .int .i64 0]) (by simp [results, Tryd.results15, go_sem, r0, r1, r2, r3, r4, r5, r6, r7, r8, r9, r10] <;> rfl) rfl ⟨.slice Ag gs.length cg, .slice Ab2 b.length cb2, ?_, ?_, ?_, HBZ⟩
          · rw [hcg]
          · rw [hcg]; exact HOG2
          · rw [hcg]; exact HOB2
  · rintro a' w' ⟨hb, e, u6, u7, u8, u9, u10, u11, u12, u13, u14, u15, u16, u17, u18, u19, u20, u21, u22, u23, u24, u25, u26, u27, u28, u29, u30, u31, u32, u33, u34, u35, u36, u37, u38, u39, u40, u41, u42, u43, hg, hk, rfl⟩
    have HB := Aside0.mk hb
    have HK := Aside0.mk hk
    have HG := hg
    clear hb hk hg
    have HTH := Aside0.mk (show World.there w' w.heap.size 0 (#[.int .u32 0, .int .u32 0, .int .u32 0, .int .u32 0, .int .u32 0, .string ⟨#[]⟩, .int .u32 0, .int .u32 0, .int .u32 0, .slice none 0 0, .slice none 0 0] : Array Value).size from fun j hj => ⟨by
        rw [show (0 + j) = j by omega, (show Blk11 w' w.heap.size _ from HK.out).cell j, Array.getElem?_eq_getElem (by simpa using hj)]; rfl, by
        exact (show Blk11 w' w.heap.size _ from HK.out).fz (0 + j)⟩)
    go_wp2_with (with_reducible refine gate_store (t := 28) rfl ?_; refine wpList_store_mid rfl 28 (.tmp 2) (.tmp 42) rfl w.heap.size 0 #[.int .u32 0, .int .u32 0, .int .u32 0, .int .u32 0, .int .u32 0, .string ⟨#[]⟩, .int .u32 0, .int .u32 0, .int .u32 0, .slice none 0 0, .slice none 0 0] rfl rfl HTH.out (by kernel_rfl) (by simp [Value.oneCell']) ?_; generalize hws : World.setCells w' w.heap.size 0 _ = ws)
    have kz : Blk11 ws w.heap.size #[.int .u32 0, .int .u32 0, .int .u32 0, .int .u32 0, .int .u32 0, .string ⟨#[]⟩, .int .u32 0, .int .u32 0, .int .u32 0, .slice none 0 0, .slice none 0 0] := by rw [← hws]; exact ((((((((((((show Blk11 w' w.heap.size _ from HK.out).set 0 (.int .u32 0)).set 1 (.int .u32 0)).set 2 (.int .u32 0)).set 3 (.int .u32 0)).set 4 (.int .u32 0)).set 5 (.string ByteArray.empty)).set 6 (.int .u32 0)).set 7 (.int .u32 0)).set 8 (.int .u32 0)).set 9 (.slice none 0 0)).set 10 (.slice none 0 0))
    have HBZ : Below w.heap.size w ws := by rw [← hws]; exact (((((((((((HB.out).setCell (p := ⟨w.heap.size, 0, none⟩) (Nat.le_refl _) (.int .u32 0)).setCell (p := ⟨w.heap.size, 1, none⟩) (Nat.le_refl _) (.int .u32 0)).setCell (p := ⟨w.heap.size, 2, none⟩) (Nat.le_refl _) (.int .u32 0)).setCell (p := ⟨w.heap.size, 3, none⟩) (Nat.le_refl _) (.int .u32 0)).setCell (p := ⟨w.heap.size, 4, none⟩) (Nat.le_refl _) (.int .u32 0)).setCell (p := ⟨w.heap.size, 5, none⟩) (Nat.le_refl _) (.string ByteArray.empty)).setCell (p := ⟨w.heap.size, 6, none⟩) (Nat.le_refl _) (.int .u32 0)).setCell (p := ⟨w.heap.size, 7, none⟩) (Nat.le_refl _) (.int .u32 0)).setCell (p := ⟨w.heap.size, 8, none⟩) (Nat.le_refl _) (.int .u32 0)).setCell (p := ⟨w.heap.size, 9, none⟩) (Nat.le_refl _) (.slice none 0 0)).setCell (p := ⟨w.heap.size, 10, none⟩) (Nat.le_refl _) (.slice none 0 0)
    have r0 : ws.cell? ⟨w.heap.size, 0, none⟩ = some (.int .u32 0) := kz.cell 0; have r1 : ws.cell? ⟨w.heap.size, 1, none⟩ = some (.int .u32 0) := kz.cell 1; have r2 : ws.cell? ⟨w.heap.size, 2, none⟩ = some (.int .u32 0) := kz.cell 2; have r3 : ws.cell? ⟨w.heap.size, 3, none⟩ = some (.int .u32 0) := kz.cell 3; have r4 : ws.cell? ⟨w.heap.size, 4, none⟩ = some (.int .u32 0) := kz.cell 4; have r5 : ws.cell? ⟨w.heap.size, 5, none⟩ = some (.string ByteArray.empty) := kz.cell 5; have r6 : ws.cell? ⟨w.heap.size, 6, none⟩ = some (.int .u32 0) := kz.cell 6; have r7 : ws.cell? ⟨w.heap.size, 7, none⟩ = some (.int .u32 0) := kz.cell 7; have r8 : ws.cell? ⟨w.heap.size, 8, none⟩ = some (.int .u32 0) := kz.cell 8; have r9 : ws.cell? ⟨w.heap.size, 9, none⟩ = some (.slice none 0 0) := kz.cell 9; have r10 : ws.cell? ⟨w.heap.size, 10, none⟩ = some (.slice none 0 0) := kz.cell 10
    simp only [Exit.jump]
    have hcg := HG.out
    refine bodyPost_ret (v := .tuple #[.agg #[.int .u32 0, .int .u32 0, .int .u32 0, .int .u32 0, .int .u32 0, .string ⟨#[]⟩, .int .u32 0, .int .u32 0, .int .u32 0, .slice none 0 0, .slice none 0 0], .int .i64 e]) (by simp [results, Tryd.results15, go_sem, r0, r1, r2, r3, r4, r5, r6, r7, r8, r9, r10] <;> rfl) rfl ⟨.slice none 0 0, .slice none 0 0, ?_, ?_, ?_, HBZ⟩
    · rw [hcg]; rfl
    · rw [hcg]; exact Kd.R_nil _ _ _ _ _
    · rw [hcg]; exact Kd.R_nil _ _ _ _ _
def calls_Get.f (l0 : List Int) : Option (Int × Int × Int × Int × Int × ByteArray × Int × Int × Int × List Int × List Int × Int) :=
  if byteOk l0 = true then some ((callG l0).x, (callG l0).p, (callG l0).v, (callG l0).o, (callG l0).f, (callG l0).m, (callG l0).s, (callG l0).u, (callG l0).g, (callG l0).gs, (callG l0).b, (callG l0).e) else none
theorem calls_Get.calls (A0 : Option Addr) (c0 : Nat) (l0 : List Int) (r1 r2 r3 r4 r5 : Int) (r6 : ByteArray) (r7 r8 r9 : Int) (r10 r11 : List Int) (r12 : Int) (w : World) (hr0 : Kd.C (Kd.int .u8) w A0 l0.length l0) (hc0 : l0.length ≤ c0) (h : calls_Get.f l0 = some (r1, r2, r3, r4, r5, r6, r7, r8, r9, r10, r11, r12)) :
    Calls Tryd.prog 15 #[.slice A0 l0.length c0] w fun e w' => ∃ v0_ v1_ : Value, e = .returned (.tuple #[.agg #[.int .u32 r1, .int .u32 r2, .int .u32 r3, .int .u32 r4, .int .u32 r5, .string r6, .int .u32 r7, .int .u32 r8, .int .u32 r9, v0_, v1_], .int .i64 r12]) ∧ Kd.R (Kd.int .u32) 22 w' w.heap.size (fun _ => True) v0_ r10 ∧ Kd.R (Kd.int .u8) 5 w' w.heap.size (fun _ => True) v1_ r11 ∧ Below w.heap.size w w' := by
  unfold calls_Get.f at h
  by_cases hok : byteOk l0 = true
  · rw [if_pos hok] at h
    simp only [Option.some.injEq, Prod.mk.injEq] at h
    obtain ⟨rfl, rfl, rfl, rfl, rfl, rfl, rfl, rfl, rfl, rfl, rfl, rfl⟩ := h
    exact calls_Get_calls A0 c0 l0 w hr0 hc0 hok
  · rw [if_neg hok] at h; cases h

theorem CallOk.small {x p v o f : Int} {m : ByteArray} {s u g : Int} {gs : List Int} (h : CallOk x p v o f m s u g gs) : m.size ≤ 255 ∧ gs.length ≤ 16 := by
  rcases h.hf with hf | hf
  · obtain ⟨rfl, _, _, _, rfl⟩ := h.f0 hf
    exact ⟨by show (0 : Nat) ≤ 255; omega, by simp⟩
  · exact h.f1 hf
theorem CallOk.untold {x p v o f : Int} {m : ByteArray} {s u g : Int} {gs : List Int} (h : CallOk x p v o f m s u g gs) : ¬ (1 < f ∨ (f = 0 ∧ toldB m s u g gs = true)) := by
  rintro (h1 | ⟨h1, h2⟩)
  · rcases h.hf with hf | hf <;> omega
  · obtain ⟨rfl, rfl, rfl, rfl, rfl⟩ := h.f0 h1
    exact absurd h2 (by decide)
/-- What is told of any bytes. -/
theorem cget_cases {l : List Int} (hb : byteOk l = true) :
    (∃ e, callG l = callZ e ∧ (e = 3 ∨ e = 4 ∨ e = 5)) ∨
    ∃ x p v o f m s u g gs b, callG l = ⟨x, p, v, o, f, m, s, u, g, gs, b, 0⟩ ∧ CallOk x p v o f m s u g gs ∧ l = callB x p v o f m s u g gs ++ b ∧ byteOk b = true ∧ l.length ≤ 65536 := by
  unfold callG
  by_cases hl : 65536 < l.length
  · rw [if_pos hl]; exact .inl ⟨3, rfl, .inl rfl⟩
  · rw [if_neg hl]
    obtain ⟨h1, h2⟩ := callH_E hb
    by_cases he : (callH l).e = 0
    · obtain ⟨x, p, v, o, f, m, s, u, g, gs, b, k1, k2, k3, k4⟩ := call_inv hb he
      exact .inr ⟨x, p, v, o, f, m, s, u, g, gs, b, k1, k2, k3, k4, by omega⟩
    · refine .inl ⟨_, h2 he, ?_⟩
      rcases h1 with h | h
      · exact absurd h he
      · exact h
/-- A call that was put is got. -/
theorem cget_put {x p v o f : Int} {m : ByteArray} {s u g : Int} {gs : List Int} (h : CallOk x p v o f m s u g gs) (b : List Int) (hb : (callB x p v o f m s u g gs ++ b).length ≤ 65536) :
    callG (callB x p v o f m s u g gs ++ b) = ⟨x, p, v, o, f, m, s, u, g, gs, b, 0⟩ := by
  unfold callG; rw [if_neg (by omega)]; exact call_read h b

theorem front_ {k : IntKind} {w : World} {A : Option Addr} {l : List Int} {x : Int} (h : Kd.C (Kd.int k) w A (l ++ [x]).length (l ++ [x])) : Kd.C (Kd.int k) w A l.length l := by
  have := Kd.C_take h (m := l.length) (by rw [List.length_append]; omega)
  rwa [List.take_left] at this
/-- A copy of numbers with a mark behind it, as a book wants it. -/
theorem rowN_twin {w : World} {base B : Nat} {A : Option Addr} {c : Nat} {l : List Int} {x : Int} (h : Kd.R (Kd.int .u32) 22 w base (fun _ => True) (.slice A (l.length + 1) c) (l ++ [x])) (hB : B ≤ base) : w.ownsRow B 22 1 (.slice A l.length c) l.length (nums .u32 l) := by
  have h1 := Kd.own_of_R h
  rw [List.length_append, List.length_singleton] at h1
  have h2 := own_take (m := l.length) h1 (Nat.le_succ _)
  have hx : (encs (Value.int .u32) (l ++ [x])).take (l.length * 1) = nums .u32 l := by
    unfold encs nums
    rw [Nat.mul_one, List.map_append, List.take_left' (by rw [List.length_map])]
  rw [hx] at h2
  exact World.ownsRow.mono h2 hB
theorem rowN_of {w : World} {base B : Nat} {A : Option Addr} {c : Nat} {xs : List Int} (h : Kd.R (Kd.int .u32) 22 w base (fun _ => True) (.slice A xs.length c) xs) (hB : B ≤ base) : w.ownsRow B 22 1 (.slice A xs.length c) xs.length (nums .u32 xs) :=
  World.ownsRow.mono (Kd.own_of_R h) hB
theorem rowsN1 {B : Nat} {w : World} {A1 : Option Addr} {n1 c1 : Nat} {x1 : List Int} {k1 : Int} (h1 : w.ownsRow B 22 1 (.slice A1 n1 c1) n1 (nums .u32 x1)) :
    ∃ X, RwsNumber B w [ent A1 n1 c1 k1] X :=
  ⟨fun _ => x1, fun j hj => by
    match j, hj with
    | 0, _ => exact h1⟩
theorem rowsN2 {B : Nat} {w : World} {A1 A2 : Option Addr} {n1 n2 c1 c2 : Nat} {x1 x2 : List Int} {k1 k2 : Int} (h1 : w.ownsRow B 22 1 (.slice A1 n1 c1) n1 (nums .u32 x1)) (h2 : w.ownsRow B 22 1 (.slice A2 n2 c2) n2 (nums .u32 x2)) :
    ∃ X, RwsNumber B w [ent A1 n1 c1 k1, ent A2 n2 c2 k2] X :=
  ⟨fun j => if j = 0 then x1 else x2, fun j hj => by
    match j, hj with
    | 0, _ => exact h1
    | 1, _ => exact h2⟩
theorem rowsB1 {B : Nat} {w : World} {A1 : Option Addr} {n1 c1 : Nat} {x1 : List Int} {k1 : Int} (h1 : w.ownsRow B 5 1 (.slice A1 n1 c1) n1 (nums .u8 x1)) :
    ∃ X, RwsByte B w [ent A1 n1 c1 k1] X :=
  ⟨fun _ => x1, fun j hj => by
    match j, hj with
    | 0, _ => exact h1⟩
theorem farB1 (a : Ent) : FarByte [a] := fun i j hi hj hne => absurd (by simp at hi hj; omega) hne
theorem farN1 (a : Ent) : FarNumber [a] := fun i j hi hj hne => absurd (by simp at hi hj; omega) hne
theorem farN_of {es : List Ent} (h : FarByte es) : FarNumber es := h
theorem nb1 {A1 : Option Addr} {n1 c1 : Nat} {k1 : Int} (h1 : n1 ≤ 100000000) (a1 : 0 ≤ k1 ∧ k1 ≤ 100) :
    ∀ (j : Nat) (h : j < [ent A1 n1 c1 k1].length), 0 ≤ [ent A1 n1 c1 k1][j].n ∧ [ent A1 n1 c1 k1][j].n ≤ 100 ∧ [ent A1 n1 c1 k1][j].len ≤ 100000000 := fun j hj => by
  match j, hj with
  | 0, _ => exact ⟨a1.1, a1.2, h1⟩
theorem len_le1 (a : Ent) : [a].length ≤ 100 := Nat.le_of_ble_eq_true rfl
theorem lt01 (a : Ent) : 0 < [a].length := Nat.succ_pos _
theorem lit2_i64 (W : World) (x y : Int) : Kd.C (Kd.int .i64) (W.alloc (.cells #[.int .i64 x, .int .i64 y] 3)) (some ⟨W.heap.size, 0, none⟩) [x, y].length [x, y] :=
  lit_readsK .i64 3 W [x, y] #[.int .i64 x, .int .i64 y] (0, 0) rfl (by simp)
/-- What is carried through the law on one who calls. -/
structure DC (w0 w : World) (K : Nat) (u g : Int) (A : Option Addr) (c : Nat) (l : List Int) (A4 : Option Addr) (c4 : Nat) : Prop where
  b : Below w0.heap.size w0 w
  x : Cred3 w w0.heap.size u g (.slice A l.length c)
  y : Cred3 w K u g (.slice A4 l.length c4)
  r : Kd.C (Kd.int .u32) w A l.length l
  t : Kd.C (Kd.int .u32) w A4 (l ++ [77]).length (l ++ [77])
  o : w.ownsRow w0.heap.size 22 1 (.slice A4 l.length c4) l.length (nums .u32 l)
theorem DC.step {w0 w w1 : World} {K : Nat} {u g : Int} {A : Option Addr} {c : Nat} {l : List Int} {A4 : Option Addr} {c4 : Nat} (h : DC w0 w K u g A c l A4 c4) (hb : Below w.heap.size w w1) : DC w0 w1 K u g A c l A4 c4 :=
  ⟨below_then h.b h.b.size hb, h.x.below hb, h.y.below hb, Kd.C_below h.r hb, Kd.C_below h.t hb, pw_own_below h.o hb⟩
/-- A row of bytes that was answered. -/
structure DX (w0 w : World) (A : Option Addr) (c : Nat) (xs : List Int) : Prop where
  o : w.ownsRow w0.heap.size 5 1 (.slice A xs.length c) xs.length (nums .u8 xs)
  r : Kd.C (Kd.int .u8) w A xs.length xs
  c : xs.length ≤ c
theorem DX.step {w0 w w1 : World} {A : Option Addr} {c : Nat} {xs : List Int} (h : DX w0 w A c xs) (hb : Below w.heap.size w w1) : DX w0 w1 A c xs :=
  ⟨pw_own_below h.o hb, Kd.C_below h.r hb, h.c⟩
theorem DX.new {w0 w w1 : World} {A : Option Addr} {c : Nat} {xs : List Int} (h : OB w1 w.heap.size (.slice A xs.length c) xs) (hB : w0.heap.size ≤ w.heap.size) (hc : xs.length ≤ c) (hr : RB w1 A xs) : DX w0 w1 A c xs :=
  ⟨row_of h hB, hr, hc⟩
/-- One who calls that was answered, in a variable. -/
structure DV (w0 w : World) (K : Nat) (u g : Int) (A : Option Addr) (c : Nat) (xs : List Int) : Prop where
  y : Cred3 w K u g (.slice A xs.length c)
  o : w.ownsRow w0.heap.size 22 1 (.slice A xs.length c) xs.length (nums .u32 xs)
  r : Kd.C (Kd.int .u32) w A xs.length xs
  c : xs.length ≤ c
theorem DV.step {w0 w w1 : World} {K : Nat} {u g : Int} {A : Option Addr} {c : Nat} {xs : List Int} (h : DV w0 w K u g A c xs) (hb : Below w.heap.size w w1) : DV w0 w1 K u g A c xs :=
  ⟨h.y.below hb, pw_own_below h.o hb, Kd.C_below h.r hb, h.c⟩
theorem DV.new {w0 w w1 : World} {u g : Int} {A : Option Addr} {c : Nat} {xs : List Int} (h : Kd.R (Kd.int .u32) 22 w1 w.heap.size (fun _ => True) (.slice A xs.length c) xs) (hB : w0.heap.size ≤ w.heap.size) (hc : xs.length ≤ c) (hr : Kd.C (Kd.int .u32) w1 A xs.length xs) :
    DV w0 (w1.alloc (.cells #[.int .u32 u, .int .u32 g, .slice A xs.length c] 25)) w1.heap.size u g A c xs :=
  ⟨cred3_new w1 u g _, pw_own_below (rowN_of h hB) (below_alloc (Below.refl _ _) _), Kd.C_below hr (below_alloc (Below.refl _ _) _), hc⟩
/-- What is carried through the law on bytes. -/
structure DW (w0 w : World) (A : Option Addr) (l : List Int) (A4 : Option Addr) (c4 : Nat) : Prop where
  b : Below w0.heap.size w0 w
  r : Kd.C (Kd.int .u8) w A l.length l
  t : Kd.C (Kd.int .u8) w A4 (l ++ [77]).length (l ++ [77])
  o : w.ownsRow w0.heap.size 5 1 (.slice A4 l.length c4) l.length (nums .u8 l)
theorem DW.step {w0 w w1 : World} {A : Option Addr} {l : List Int} {A4 : Option Addr} {c4 : Nat} (h : DW w0 w A l A4 c4) (hb : Below w.heap.size w w1) : DW w0 w1 A l A4 c4 :=
  ⟨below_then h.b h.b.size hb, Kd.C_below h.r hb, Kd.C_below h.t hb, pw_own_below h.o hb⟩
/-- What a book's keeping writes. -/
def BKT (t : TypeId) : Prop := t = 44 ∨ t = 81 ∨ t = 84
theorem Cred3.kept {w w1 : World} {C : Nat} {u g : Int} {v : Value} (h : Cred3 w C u g v) (hk : TK BKT w w1) : Cred3 w1 C u g v :=
  (hk.block C _ _ _ h (by unfold BKT; decide)).trans h
set_option maxHeartbeats 1000000 in
theorem bytes_keep2 (w0 w : World) (K : Nat) (nn : Int) (mb mn : Nat) (bs ns : List Ent) (la : Option Addr) (len lc : Nat) (h : BookS w0 w K nn mb mn bs ns) (hm : mb < bs.length) (he : bs[mb] = ⟨la, len, lc, none, 0, 0, nn + 1⟩) (h0 : 0 ≤ nn) (h1 : nn ≤ 100) :
    Calls Tryd.prog 12 #[.pointer (some ⟨K, 0, none⟩), .slice la len lc] w fun e w' => e = .returned (.tuple #[]) ∧ BookS w0 w' K (nn + 1) (mb + 1) mn bs ns ∧ TK BKT w w' := by
  obtain ⟨vB, vN, k1, k2, k3⟩ := h.ex
  have hc := keepByte_calls w0.heap.size K nn vB vN mb bs la len lc w k1 k2 hm (by rw [he]) (by rw [he]) (by rw [he]) h0 h1 (by have := h.lb; omega) h.hK
  have H := Aside0.mk h
  have K3 := Aside0.mk k3
  clear h k1 k2 k3 he
  go_enter Tryd.func12, Tryd.ntmps12
  go_wp2_with fail
  refine hc.mono ?_
  clear hc
  rintro e w1 ⟨rfl, vX, a1, a2, a3, a4⟩
  obtain ⟨X, hX⟩ := H.out.rb
  obtain ⟨Y, hY⟩ := H.out.rn
  have HE := Aside0.mk (show BookS w0 w1 K (nn + 1) (mb + 1) mn bs ns from ⟨⟨vX, vN, a1, a2, a3.row K3.out (by decide)⟩, ⟨X, fun j hj => a3.row (hX j hj) (by decide)⟩, ⟨Y, fun j hj => a3.row (hY j hj) (by decide)⟩, H.out.fb, H.out.fn, H.out.nb, H.out.nu, H.out.lb, H.out.ln, H.out.bel.trans a4, H.out.hK⟩)
  have HF := Aside0.mk (show TK BKT w w1 from a3.mono (fun t ht => ht.elim .inl (fun h => .inr (.inl h))))
  clear a1 a2 a3 a4 hX hY
  go_wp2
  go_end0
  exact ⟨rfl, HE.out, HF.out⟩
set_option maxHeartbeats 1000000 in
theorem numbers_keep2 (w0 w : World) (K : Nat) (nn : Int) (mb mn : Nat) (bs ns : List Ent) (la : Option Addr) (len lc : Nat) (h : BookS w0 w K nn mb mn bs ns) (hm : mn < ns.length) (he : ns[mn] = ⟨la, len, lc, none, 0, 0, nn + 1⟩) (h0 : 0 ≤ nn) (h1 : nn ≤ 100) :
    Calls Tryd.prog 68 #[.pointer (some ⟨K, 0, none⟩), .slice la len lc] w fun e w' => e = .returned (.tuple #[]) ∧ BookS w0 w' K (nn + 1) mb (mn + 1) bs ns ∧ TK BKT w w' := by
  obtain ⟨vB, vN, k1, k2, k3⟩ := h.ex
  have hc := keepNumber_calls w0.heap.size K nn vB vN mn ns la len lc w k1 k3 hm (by rw [he]) (by rw [he]) (by rw [he]) h0 h1 (by have := h.ln; omega) h.hK
  have H := Aside0.mk h
  have K3 := Aside0.mk k2
  clear h k1 k2 k3 he
  go_enter Tryd.func68, Tryd.ntmps68
  go_wp2_with fail
  refine hc.mono ?_
  clear hc
  rintro e w1 ⟨rfl, vX, a1, a2, a3, a4⟩
  obtain ⟨X, hX⟩ := H.out.rb
  obtain ⟨Y, hY⟩ := H.out.rn
  have HE := Aside0.mk (show BookS w0 w1 K (nn + 1) mb (mn + 1) bs ns from ⟨⟨vB, vX, a1, a3.row K3.out (by decide), a2⟩, ⟨X, fun j hj => a3.row (hX j hj) (by decide)⟩, ⟨Y, fun j hj => a3.row (hY j hj) (by decide)⟩, H.out.fb, H.out.fn, H.out.nb, H.out.nu, H.out.lb, H.out.ln, H.out.bel.trans a4, H.out.hK⟩)
  have HF := Aside0.mk (show TK BKT w w1 from a3.mono (fun t ht => ht.elim .inl (fun h => .inr (.inr h))))
  clear a1 a2 a3 a4 hX hY
  go_wp2
  go_end0
  exact ⟨rfl, HE.out, HF.out⟩
set_option maxHeartbeats 1000000 in
theorem cred_keep2 (w0 w : World) (K : Nat) (nn : Int) (mb mn : Nat) (bs ns : List Ent) (u g : Int) (la : Option Addr) (len lc : Nat) (h : BookS w0 w K nn mb mn bs ns) (hm : mn < ns.length) (he : ns[mn] = ⟨la, len, lc, none, 0, 0, nn + 1⟩) (h0 : 0 ≤ nn) (h1 : nn ≤ 100) :
    Calls Tryd.prog 28 #[.pointer (some ⟨K, 0, none⟩), .agg #[.int .u32 u, .int .u32 g, .slice la len lc]] w fun e w' => e = .returned (.tuple #[]) ∧ BookS w0 w' K (nn + 1) mb (mn + 1) bs ns ∧ TK BKT w w' := by
  have hc := fun W (hW : BookS w0 W K nn mb mn bs ns) => numbers_keep2 w0 W K nn mb mn bs ns la len lc hW hm he h0 h1
  have HC := Aside0.mk hc
  have HT0 := Aside0.mk (TK.of_below (below_alloc (Below.refl _ _) (.cells #[.int .u32 u, .int .u32 g, .slice la len lc] 25) : Below w.heap.size w _) BKT)
  have H := Aside0.mk (h.step (below_alloc (Below.refl _ _) (.cells #[.int .u32 u, .int .u32 g, .slice la len lc] 25)))
  clear h he hc
  go_enter Tryd.func28, Tryd.ntmps28
  go_wp2_with fail
  refine (HC.out _ H.out).mono ?_
  rintro e w1 ⟨rfl, hs⟩
  have HE := Aside0.mk hs.1
  have HF := Aside0.mk (HT0.out.trans hs.2)
  clear hs
  go_wp2
  go_end0
  exact ⟨rfl, HE.out, HF.out⟩
end Go.Proofs.YtoalknneifpehaaDoor.Hand
