import Derived.Deep.MidRow
import Derived.Test.YtoalknneifpehaaDoorGC1
import Derived.Test.YtoalknneifpehaaDoorQ03
import Derived.Test.YtoalknneifpehaaDoorGP1
import Derived.Deep.RegionHeld3
import Derived.Test.YtoalknneifpehaaDoorNB
import Derived.Test.YtoalknneifpehaaDoorRX
namespace Go.Proofs.YtoalknneifpehaaDoor.Hand
open Go.RowKit Go.Proofs.YtoalknneifpehaaDoor.GB Go.Proofs.YtoalknneifpehaaDoor.GC Go.Proofs.YtoalknneifpehaaDoorW.PrintWords Go.Proofs.YtoalknneifpehaaDoorW.PrintLast Go.Proofs.YtoalknneifpehaaDoor.GP Go.Proofs.YtoalknneifpehaaDoorW.PrintMore
set_option linter.unusedVariables false
set_option linter.unusedSimpArgs false

/-- Numbers as bytes, one behind the other. -/
def numsL : List Int → List Int
  | [] => []
  | n :: ns => beL n 4 ++ numsL ns
theorem numsL_append (a b : List Int) : numsL (a ++ b) = numsL a ++ numsL b := by
  induction a with
  | nil => rfl
  | cons x a ih => simp only [List.cons_append, numsL, ih, List.append_assoc]
theorem numsL_length (a : List Int) : (numsL a).length = 4 * a.length := by
  induction a with
  | nil => rfl
  | cons x a ih => simp only [numsL, List.length_append, List.length_cons, ih, beL_length]; omega

theorem cput_l0 (ns : List Int) (hn : ns.length ≤ 1000000) : ∀ (m k i : Nat) (acc : List Int), m = ns.length - i → i ≤ ns.length → m < k → acc.length + 4 * m < 140737488355328 → creds_put.l0 k acc ns (ns.length : Int) (i : Int) = some (acc ++ numsL (ns.drop i)) := by
  intro m
  induction m with
  | zero =>
    intro k i acc h1 h2 h3 h4
    obtain ⟨k, rfl⟩ : ∃ k', k = k' + 1 := ⟨k - 1, by omega⟩
    obtain rfl : i = ns.length := by omega
    rw [creds_put.l0, if_neg (by omega), List.drop_length]
    simp [numsL]
  | succ m ih =>
    intro k i acc h1 h2 h3 h4
    obtain ⟨k, rfl⟩ : ∃ k', k = k' + 1 := ⟨k - 1, by omega⟩
    have hi : i < ns.length := by omega
    rw [creds_put.l0, if_pos (by omega), if_pos (by omega), if_pos (by omega)]
    rw [show words_Put.f (rd ns (i : Int)) = some (beL (rd ns (i : Int)) 4) from rfl, Option.bind_some, rd_nat ns i hi]
    rw [if_pos (by rw [beL_length]; omega), wrap_in (by omega) (by omega)]
    rw [show ((i : Int) + 1) = ((i + 1 : Nat) : Int) by omega]
    rw [ih k (i + 1) _ (by omega) (by omega) (by omega) (by rw [List.length_append, beL_length]; omega)]
    rw [List.drop_eq_getElem_cons hi, numsL, List.append_assoc]
theorem cput_f (k : Nat) (acc ns : List Int) (hn : ns.length ≤ 1000000) (hk : ns.length < k) (h : acc.length + 4 * ns.length < 140737488355328) : creds_put.f k acc ns = some (acc ++ numsL ns) := by
  unfold creds_put.f
  have := cput_l0 ns hn ns.length k 0 acc (by omega) (by omega) hk h
  simpa using this

/-- Who calls, as bytes. -/
def credB (s : Int) (m : ByteArray) (u g : Int) (gs : List Int) : List Int := beL s 4 ++ (putL (bytesOf m) ++ (beL u 4 ++ (beL g 4 ++ (beL gs.length 4 ++ numsL gs))))
theorem padI_small (n : Nat) : (padI n).toNat ≤ 3 := by have := padI_range n; omega
theorem credB_length (s : Int) (m : ByteArray) (u g : Int) (gs : List Int) : (credB s m u g gs).length = 16 + (putL (bytesOf m)).length + 4 * gs.length := by
  unfold credB; simp only [List.length_append, beL_length, numsL_length]; omega
theorem cPut_ok (k : Nat) (s : Int) (m : ByteArray) (u g : Int) (gs : List Int) (hm : m.size ≤ 255) (hg : gs.length ≤ 16) (hk : 20 < k) : creds_Put.f (k + 1) s m u g gs = some (credB s m u g gs, 0) := by
  have hpl := putL_length (bytesOf m)
  have hps := padI_small (bytesOf m).length
  have hbm := bytesOf_length m
  unfold creds_Put.f
  rw [if_neg (by omega), creds_Put.j0, decide_eq_false (by omega), if_neg (by simp)]
  rw [cput_f k [] [s] (by simp) (by simp; omega) (by simp), Option.bind_some, sput_f m (by omega), Option.bind_some]
  rw [if_pos (by simp only [List.length_append, List.length_nil, numsL_length, List.length_cons]; omega)]
  rw [show ((gs.length : Int) % 4294967296) = (gs.length : Int) by omega]
  rw [cput_f k _ [u, g, (gs.length : Int)] (by simp) (by simp; omega) (by simp only [List.length_append, List.length_nil, numsL_length, List.length_cons]; omega), Option.bind_some]
  rw [cput_f k _ gs (by omega) (by omega) (by simp only [List.length_append, List.length_nil, numsL_length, List.length_cons]; omega), Option.bind_some]
  simp only [numsL, credB, List.nil_append, List.append_nil, List.append_assoc]
theorem cPut_no (k : Nat) (s : Int) (m : ByteArray) (u g : Int) (gs : List Int) (h : 255 < m.size ∨ 16 < gs.length) : creds_Put.f (k + 1) s m u g gs = some ([], 1) := by
  unfold creds_Put.f
  by_cases hm : (m.size : Int) > 255
  · rw [if_pos hm, creds_Put.j0, if_pos rfl]
  · rw [if_neg hm, creds_Put.j0, decide_eq_true (by omega), if_pos rfl]

/-! ### What is read is what stood there -/
theorem numG_inv {l l' : List Int} {e0 x : Int} (hb : byteOk l = true) (h : numG l e0 = (x, l', 0)) : e0 = 0 ∧ l = beL x 4 ++ l' := by
  unfold numG at h
  by_cases he : e0 = 0
  · rw [if_pos he] at h
    by_cases hl : l.length < 4
    · rw [if_pos hl] at h; simp at h
    · rw [if_neg hl] at h
      simp only [Prod.mk.injEq] at h
      obtain ⟨rfl, rfl, _⟩ := h
      refine ⟨he, ?_⟩
      rw [be4_de _ (by rw [List.length_take]; omega) (byteOk_take hb 4), List.take_append_drop]
  · rw [if_neg he] at h
    simp only [Prod.mk.injEq] at h
    exact absurd h.2.2 he
theorem strG_inv {l l' : List Int} {e0 : Int} {m : ByteArray} (hb : byteOk l = true) (h : strG l e0 = (m, l', 0)) : e0 = 0 ∧ l = putL (bytesOf m) ++ l' ∧ m.size ≤ 255 := by
  unfold strG at h
  by_cases he : e0 = 0
  · rw [if_pos he] at h
    refine ⟨he, ?_⟩
    unfold strings_Get.f at h
    rcases get_again l 255 hb with ⟨e, hne, hg⟩ | ⟨xs, n, hg, hn, hx, hp, hbx, hlx⟩
    · rw [hg] at h
      simp only [Option.map_some, Prod.mk.injEq] at h
      exact absurd h.2.2 hne
    · rw [hg] at h
      simp only [Option.map_some, Prod.mk.injEq, Int.toNat_natCast] at h
      obtain ⟨rfl, rfl, _⟩ := h
      rw [bytesOf_str xs hbx, hp, List.take_append_drop, strOfNums_size]
      exact ⟨rfl, by omega⟩
  · rw [if_neg he] at h
    simp only [Prod.mk.injEq] at h
    exact absurd h.2.2 he
theorem grpG_inv : ∀ (k : Nat) (gs l gs' l' : List Int) (e : Int), byteOk l = true → grpG k gs l e = (gs', l', 0) → e = 0 ∧ ∃ ns, gs' = gs ++ ns ∧ ns.length = k ∧ l = numsL ns ++ l'
  | 0, gs, l, gs', l', e, hb, h => by
    simp only [grpG, Prod.mk.injEq] at h
    obtain ⟨rfl, rfl, he⟩ := h
    exact ⟨he, [], by simp, rfl, rfl⟩
  | k + 1, gs, l, gs', l', e, hb, h => by
    rw [grpG] at h
    by_cases he : e = 0
    · rw [if_pos he] at h
      obtain ⟨h1, ns, h2, h3, h4⟩ := grpG_inv k _ _ _ _ _ (numG_ok hb e) h
      have hx : numG l e = ((numG l e).1, (numG l e).2.1, 0) := by rw [← h1]
      obtain ⟨_, h5⟩ := numG_inv hb hx
      refine ⟨he, (numG l e).1 :: ns, by rw [h2]; simp, by simp [h3], ?_⟩
      rw [numsL, List.append_assoc, ← h4]; exact h5
    · rw [if_neg he] at h
      simp only [Prod.mk.injEq] at h
      exact absurd h.2.2 he
theorem limG_inv {k e : Int} (h : limG k e = 0) : e = 0 ∧ k ≤ 16 := by
  refine ⟨?_, limG_zero h⟩
  unfold limG at h
  by_cases he : e = 0
  · exact he
  · rw [if_neg he] at h; exact h
theorem endG_inv {l : List Int} {e : Int} (h : endG l e = 0) : e = 0 ∧ l = [] := by
  unfold endG at h
  by_cases he : e = 0
  · rw [if_pos he] at h
    refine ⟨he, ?_⟩
    by_cases hl : 0 < l.length
    · rw [if_pos hl] at h; omega
    · exact List.eq_nil_of_length_eq_zero (by omega)
  · rw [if_neg he] at h; exact absurd h he
/-- Who is got of any bytes is nobody, or is put as these. -/
theorem cred_again (l : List Int) (hb : byteOk l = true) :
    (∃ e : Int, e ≠ 0 ∧ credG l = ⟨0, ByteArray.empty, 0, 0, [], e⟩) ∨
    (∃ s m u g gs, credG l = ⟨s, m, u, g, gs, 0⟩ ∧ l = credB s m u g gs ∧ m.size ≤ 255 ∧ gs.length ≤ 16) := by
  obtain ⟨a, ha⟩ : ∃ a, numG l 0 = a := ⟨_, rfl⟩
  obtain ⟨s, hs⟩ : ∃ s, strG a.2.1 a.2.2 = s := ⟨_, rfl⟩
  obtain ⟨u, hu⟩ : ∃ u, numG s.2.1 s.2.2 = u := ⟨_, rfl⟩
  obtain ⟨g, hg⟩ : ∃ g, numG u.2.1 u.2.2 = g := ⟨_, rfl⟩
  obtain ⟨k, hk⟩ : ∃ k, numG g.2.1 g.2.2 = k := ⟨_, rfl⟩
  obtain ⟨r, hr⟩ : ∃ r, grpG k.1.toNat [] k.2.1 (limG k.1 k.2.2) = r := ⟨_, rfl⟩
  have hR : credG l = (if endG r.2.1 r.2.2 = 0 then (⟨a.1, s.1, u.1, g.1, r.1, 0⟩ : CredR) else ⟨0, ByteArray.empty, 0, 0, [], endG r.2.1 r.2.2⟩) := by
    unfold credG; subst ha; subst hs; subst hu; subst hg; subst hk; subst hr; rfl
  rw [hR]
  by_cases hz : endG r.2.1 r.2.2 = 0
  · rw [if_pos hz]
    have oka : byteOk a.2.1 = true := ha ▸ numG_ok hb 0
    have oks : byteOk s.2.1 = true := hs ▸ strG_ok oka _
    have oku : byteOk u.2.1 = true := hu ▸ numG_ok oks _
    have okg : byteOk g.2.1 = true := hg ▸ numG_ok oku _
    have okk : byteOk k.2.1 = true := hk ▸ numG_ok okg _
    have rk := hk ▸ numG_range okg g.2.2
    obtain ⟨h1, h2⟩ := endG_inv hz
    obtain ⟨h3, ns, h4, h5, h6⟩ := grpG_inv k.1.toNat [] k.2.1 r.1 r.2.1 _ okk (by rw [hr, ← h1])
    obtain ⟨h7, h8⟩ := limG_inv h3
    obtain ⟨h9, h10⟩ := numG_inv okg (x := k.1) (l' := k.2.1) (by rw [hk, ← h7])
    obtain ⟨h11, h12⟩ := numG_inv oku (x := g.1) (l' := g.2.1) (by rw [hg, ← h9])
    obtain ⟨h13, h14⟩ := numG_inv oks (x := u.1) (l' := u.2.1) (by rw [hu, ← h11])
    obtain ⟨h15, h16, h17⟩ := strG_inv oka (m := s.1) (l' := s.2.1) (by rw [hs, ← h13])
    obtain ⟨_, h18⟩ := numG_inv hb (x := a.1) (l' := a.2.1) (by rw [ha, ← h15])
    refine .inr ⟨a.1, s.1, u.1, g.1, r.1, rfl, ?_, h17, ?_⟩
    · rw [h2, List.append_nil] at h6
      rw [List.nil_append] at h4
      rw [h18, h16, h14, h12, h10, h6, h4]
      unfold credB
      rw [show ((ns.length : Nat) : Int) = k.1 by have := rk.1; omega]
    · rw [h4]; simp; omega
  · rw [if_neg hz]; exact .inl ⟨_, hz, rfl⟩

/-! ### What stands there is read -/
theorem take_be (x : Int) (rest : List Int) (i : Nat) (h : 4 ≤ i) : (beL x 4 ++ rest).take i = beL x 4 ++ rest.take (i - 4) := by
  rw [List.take_append, beL_length, List.take_of_length_le (by rw [beL_length]; exact h)]
theorem numG_be (x : Int) (rest : List Int) (h0 : 0 ≤ x) (h1 : x < 4294967296) : numG (beL x 4 ++ rest) 0 = (x, rest, 0) := by
  have hd := List.drop_left (l₁ := beL x 4) (l₂ := rest)
  rw [beL_length] at hd
  unfold numG
  rw [if_pos rfl, if_neg (by simp [beL_length]), List.take_append_of_le_length (by rw [beL_length]; omega), List.take_of_length_le (by rw [beL_length]; omega), deB4 x h0 h1, hd]
theorem numG_low {l : List Int} (h : l.length < 4) : numG l 0 = (0, l, 4) := by
  unfold numG; rw [if_pos rfl, if_pos h]
theorem numG_err {e : Int} (l : List Int) (h : e ≠ 0) : numG l e = (0, l, e) := by unfold numG; rw [if_neg h]
theorem grpG_err {e : Int} (h : e ≠ 0) : ∀ (k : Nat) (gs l : List Int), grpG k gs l e = (gs, l, e)
  | 0, _, _ => rfl
  | k + 1, _, _ => by rw [grpG, if_neg h]
theorem strG_put (m : ByteArray) (rest : List Int) (h : m.size ≤ 255) : strG (putL (bytesOf m) ++ rest) 0 = (m, rest, 0) := by
  have hl := bytesOf_length m
  have hp := padI_range (bytesOf m).length
  have hpl := putL_length (bytesOf m)
  unfold strG
  rw [if_pos rfl]
  unfold strings_Get.f
  rw [get_put _ _ _ (by omega) (by omega), Option.map_some]
  dsimp only
  rw [str_bytesOf, show (4 + ((bytesOf m).length : Int) + padI (bytesOf m).length).toNat = (putL (bytesOf m)).length by omega, List.drop_left]
theorem strG_low (m : ByteArray) (i : Nat) (h : m.size ≤ 255) (hi : i < (putL (bytesOf m)).length) : ∃ s l', strG ((putL (bytesOf m)).take i) 0 = (s, l', 4) := by
  have hl := bytesOf_length m
  unfold strG
  rw [if_pos rfl]
  unfold strings_Get.f
  rw [get_put_cut _ _ _ (by omega) (by omega) hi, Option.map_some]
  exact ⟨_, _, rfl⟩
theorem grpG_nums : ∀ (ns gs rest : List Int), (∀ n ∈ ns, 0 ≤ n ∧ n < 4294967296) → grpG ns.length gs (numsL ns ++ rest) 0 = (gs ++ ns, rest, 0)
  | [], gs, rest, _ => by simp [grpG, numsL]
  | n :: ns, gs, rest, h => by
    have hn := h n (List.mem_cons_self ..)
    rw [List.length_cons, grpG, if_pos rfl, numsL, List.append_assoc, numG_be n _ hn.1 hn.2]
    dsimp only
    rw [grpG_nums ns _ rest (fun x hx => h x (List.mem_cons_of_mem _ hx)), List.append_assoc]
    rfl
theorem grpG_low : ∀ (ns gs : List Int) (i : Nat), (∀ n ∈ ns, 0 ≤ n ∧ n < 4294967296) → i < 4 * ns.length → ∃ gs' l', grpG ns.length gs ((numsL ns).take i) 0 = (gs', l', 4)
  | [], gs, i, _, h => absurd h (by simp)
  | n :: ns, gs, i, h, hi => by
    have hn := h n (List.mem_cons_self ..)
    rw [List.length_cons, grpG, if_pos rfl, numsL]
    by_cases h4 : i < 4
    · rw [numG_low (by rw [List.length_take]; omega)]
      dsimp only
      rw [grpG_err (by omega)]
      exact ⟨_, _, rfl⟩
    · rw [take_be n _ i (by omega), numG_be n _ hn.1 hn.2]
      dsimp only
      exact grpG_low ns _ (i - 4) (fun x hx => h x (List.mem_cons_of_mem _ hx)) (by rw [List.length_cons] at hi; omega)

theorem cred_read (s : Int) (m : ByteArray) (u g : Int) (gs rest : List Int) (hs : 0 ≤ s ∧ s < 4294967296) (hu : 0 ≤ u ∧ u < 4294967296) (hg : 0 ≤ g ∧ g < 4294967296) (hgs : ∀ n ∈ gs, 0 ≤ n ∧ n < 4294967296) (hm : m.size ≤ 255) (hl : gs.length ≤ 16) :
    credG (credB s m u g gs ++ rest) = if rest = [] then ⟨s, m, u, g, gs, 0⟩ else ⟨0, ByteArray.empty, 0, 0, [], 5⟩ := by
  unfold credG credB
  simp only [List.append_assoc]
  rw [numG_be s _ hs.1 hs.2]; dsimp only
  rw [strG_put m _ hm]; dsimp only
  rw [numG_be u _ hu.1 hu.2]; dsimp only
  rw [numG_be g _ hg.1 hg.2]; dsimp only
  rw [numG_be (gs.length : Int) _ (by omega) (by omega)]; dsimp only
  rw [show limG (gs.length : Int) 0 = 0 by unfold limG; rw [if_pos rfl, if_neg (by omega)], Int.toNat_natCast, grpG_nums gs [] rest hgs]
  dsimp only
  unfold endG
  rw [if_pos rfl]
  cases rest with
  | nil => simp
  | cons x xs => simp
theorem cred_many (s : Int) (m : ByteArray) (u g : Int) (gs : List Int) (hs : 0 ≤ s ∧ s < 4294967296) (hu : 0 ≤ u ∧ u < 4294967296) (hg : 0 ≤ g ∧ g < 4294967296) (hm : m.size ≤ 255) (hl : 16 < gs.length) (hl2 : gs.length < 4294967296) :
    credG (credB s m u g gs) = ⟨0, ByteArray.empty, 0, 0, [], 3⟩ := by
  unfold credG credB
  rw [numG_be s _ hs.1 hs.2]; dsimp only
  rw [strG_put m _ hm]; dsimp only
  rw [numG_be u _ hu.1 hu.2]; dsimp only
  rw [numG_be g _ hg.1 hg.2]; dsimp only
  rw [numG_be (gs.length : Int) _ (by omega) (by omega)]; dsimp only
  rw [show limG (gs.length : Int) 0 = 3 by unfold limG; rw [if_pos rfl, if_pos (by omega)], grpG_err (by omega)]
  rfl
theorem lim4 (k : Int) : limG k 4 = 4 := rfl
theorem end4 (l : List Int) : endG l 4 = 4 := rfl
theorem cred_cut (s : Int) (m : ByteArray) (u g : Int) (gs : List Int) (i : Nat) (hs : 0 ≤ s ∧ s < 4294967296) (hu : 0 ≤ u ∧ u < 4294967296) (hg : 0 ≤ g ∧ g < 4294967296) (hgs : ∀ n ∈ gs, 0 ≤ n ∧ n < 4294967296) (hm : m.size ≤ 255) (hl : gs.length ≤ 16) (hi : i < (credB s m u g gs).length) :
    (credG ((credB s m u g gs).take i)).e = 4 := by
  have n4 : ∀ l, numG l 4 = (0, l, 4) := fun l => numG_err l (by omega)
  have s4 : ∀ l, strG l 4 = (ByteArray.empty, l, 4) := fun l => strG_else (by omega)
  have g4 : ∀ k gs l, grpG k gs l 4 = (gs, l, 4) := fun k gs l => grpG_err (by omega) k gs l
  rw [credB_length] at hi
  have fin : ∀ (P : Prop) [Decidable P] (a b : CredR), ¬ P → b.e = 4 → (if P then a else b).e = 4 := fun P _ a b hp hb => by rw [if_neg hp]; exact hb
  unfold credG credB
  by_cases h1 : i < 4
  · rw [numG_low (by rw [List.length_take]; omega)]; dsimp only
    rw [s4]; dsimp only; rw [n4]; dsimp only; rw [n4]; dsimp only; rw [n4]; dsimp only; rw [lim4, g4]; dsimp only; rw [end4]; exact fin _ _ _ (by omega) rfl
  · rw [take_be s _ i (by omega), numG_be s _ hs.1 hs.2]; dsimp only
    by_cases h2 : i - 4 < (putL (bytesOf m)).length
    · rw [List.take_append_of_le_length (by omega)]
      obtain ⟨a, b, he⟩ := strG_low m (i - 4) hm h2
      rw [he]; dsimp only; rw [n4]; dsimp only; rw [n4]; dsimp only; rw [n4]; dsimp only; rw [lim4, g4]; dsimp only; rw [end4]; exact fin _ _ _ (by omega) rfl
    · rw [List.take_append, List.take_of_length_le (by omega), strG_put m _ hm]; dsimp only
      obtain ⟨j, hj⟩ : ∃ j, i - 4 - (putL (bytesOf m)).length = j := ⟨_, rfl⟩
      rw [hj]
      by_cases h3 : j < 4
      · rw [numG_low (by rw [List.length_take]; omega)]; dsimp only
        rw [n4]; dsimp only; rw [n4]; dsimp only; rw [lim4, g4]; dsimp only; rw [end4]; exact fin _ _ _ (by omega) rfl
      · rw [take_be u _ j (by omega), numG_be u _ hu.1 hu.2]; dsimp only
        by_cases h5 : j - 4 < 4
        · rw [numG_low (by rw [List.length_take]; omega)]; dsimp only
          rw [n4]; dsimp only; rw [lim4, g4]; dsimp only; rw [end4]; exact fin _ _ _ (by omega) rfl
        · rw [take_be g _ (j - 4) (by omega), numG_be g _ hg.1 hg.2]; dsimp only
          by_cases h6 : j - 4 - 4 < 4
          · rw [numG_low (by rw [List.length_take]; omega)]; dsimp only
            rw [lim4, g4]; dsimp only; rw [end4]; exact fin _ _ _ (by omega) rfl
          · rw [take_be (gs.length : Int) _ (j - 4 - 4) (by omega), numG_be (gs.length : Int) _ (by omega) (by omega)]; dsimp only
            rw [show limG (gs.length : Int) 0 = 0 by unfold limG; rw [if_pos rfl, if_neg (by omega)], Int.toNat_natCast]
            obtain ⟨a, b, he⟩ := grpG_low gs [] (j - 4 - 4 - 4) hgs (by omega)
            rw [he]; dsimp only; rw [end4]; exact fin _ _ _ (by omega) rfl
theorem credB_mod (s : Int) (m : ByteArray) (u g : Int) (gs : List Int) : (credB s m u g gs).length % 4 = 0 := by
  rw [credB_length]; have := putL_mod (bytesOf m); omega
theorem credB_most (s : Int) (m : ByteArray) (u g : Int) (gs : List Int) (hm : m.size ≤ 255) (hl : gs.length ≤ 16) : (credB s m u g gs).length ≤ 400 := by
  rw [credB_length, putL_length, bytesOf_length]; have := padI_nat m.size; omega
theorem byteOk_nums : ∀ ns : List Int, byteOk (numsL ns) = true
  | [] => rfl
  | n :: ns => byteOk_append (byteOk_be4 n) (byteOk_nums ns)
theorem byteOk_putL (xs : List Int) (h : byteOk xs = true) : byteOk (putL xs) = true := by
  unfold putL padded
  refine byteOk_append (byteOk_be4 _) (byteOk_append h ?_)
  unfold byteOk; rw [List.all_eq_true]; intro x hx; rw [List.eq_of_mem_replicate hx]; rfl
theorem byteOk_credB (s : Int) (m : ByteArray) (u g : Int) (gs : List Int) : byteOk (credB s m u g gs) = true :=
  byteOk_append (byteOk_be4 _) (byteOk_append (byteOk_putL _ (bytesOf_ok m)) (byteOk_append (byteOk_be4 _) (byteOk_append (byteOk_be4 _) (byteOk_append (byteOk_be4 _) (byteOk_nums gs)))))

theorem nums_l0 (xs : List Int) (hl : xs.length ≤ 1000000000) : ∀ (m k i : Nat), xs.length - i = m → i ≤ xs.length → m < k → wharfingerlaw01_SameNumbers.l0 k xs xs (i : Int) = some true := by
  intro m
  induction m with
  | zero =>
    intro k i h1 h2 h3
    obtain ⟨k, rfl⟩ : ∃ m, k = m + 1 := ⟨k - 1, by omega⟩
    rw [wharfingerlaw01_SameNumbers.l0, if_neg (by omega)]
  | succ m ih =>
    intro k i h1 h2 h3
    obtain ⟨k, rfl⟩ : ∃ m, k = m + 1 := ⟨k - 1, by omega⟩
    rw [wharfingerlaw01_SameNumbers.l0, if_pos (by omega), if_pos (by omega), if_pos (by omega), if_pos rfl, wrap_in (by omega) (by omega), show ((i : Int) + 1) = ((i + 1 : Nat) : Int) by omega]
    exact ih k (i + 1) (by omega) (by omega) (by omega)
theorem sameCred_self (k : Nat) (u g : Int) (gs : List Int) (hl : gs.length ≤ 1000000000) (hk : gs.length < k) : wharfingerlaw01_SameCred.f k u g gs u g gs = some true := by
  unfold wharfingerlaw01_SameCred.f wharfingerlaw01_SameNumbers.f
  rw [if_pos rfl, if_pos rfl, if_pos rfl]
  have := nums_l0 gs hl gs.length k 0 (by omega) (by omega) hk
  rw [show ((0 : Nat) : Int) = 0 from rfl] at this
  rw [this]
  rfl

/-! ### What the document's own Put answers -/
theorem r1put {x : Int} (h0 : 0 ≤ x) (h1 : x < 4294967296) : wharfingerref01_Put.f x = some (beL x 4) := by
  unfold wharfingerref01_Put.f; rw [if_pos ⟨h0, h1⟩]
theorem r3put {s : ByteArray} (h : s.size ≤ 1048580) : wharfingerref03_Put.f s = some (putL (bytesOf s)) := by
  unfold wharfingerref03_Put.f; rw [if_pos h]
theorem rput_l0 (u g : Int) (ns : List Int) (hn : ns.length ≤ 1000000) (hr : ∀ n ∈ ns, 0 ≤ n ∧ n < 4294967296) : ∀ (m k i : Nat) (acc : List Int), m = ns.length - i → i ≤ ns.length → m < k → acc.length + 4 * m < 140737488355328 → wharfingerref05_Put.l0 k acc (i : Int) u g ns = some (acc ++ numsL (ns.drop i), 0) := by
  intro m
  induction m with
  | zero =>
    intro k i acc h1 h2 h3 h4
    obtain ⟨k, rfl⟩ : ∃ k', k = k' + 1 := ⟨k - 1, by omega⟩
    obtain rfl : i = ns.length := by omega
    rw [wharfingerref05_Put.l0, if_neg (by omega), List.drop_length]
    simp [numsL]
  | succ m ih =>
    intro k i acc h1 h2 h3 h4
    obtain ⟨k, rfl⟩ : ∃ k', k = k' + 1 := ⟨k - 1, by omega⟩
    have hi : i < ns.length := by omega
    have hx := hr _ (List.getElem_mem hi)
    rw [wharfingerref05_Put.l0, if_pos (by omega), if_pos (by omega), rd_nat ns i hi, r1put hx.1 hx.2, Option.bind_some]
    rw [if_pos (by rw [beL_length]; omega), wrap_in (by omega) (by omega)]
    rw [show ((i : Int) + 1) = ((i + 1 : Nat) : Int) by omega]
    rw [ih k (i + 1) _ (by omega) (by omega) (by omega) (by rw [List.length_append, beL_length]; omega)]
    rw [List.drop_eq_getElem_cons hi, numsL, List.append_assoc]
theorem rPut_ok (k : Nat) (s : Int) (m : ByteArray) (u g : Int) (gs : List Int) (hs : 0 ≤ s ∧ s < 4294967296) (hu : 0 ≤ u ∧ u < 4294967296) (hg : 0 ≤ g ∧ g < 4294967296) (hgs : ∀ n ∈ gs, 0 ≤ n ∧ n < 4294967296) (hm : m.size ≤ 255) (hl : gs.length ≤ 16) (hk : 20 < k) : wharfingerref05_Put.f (k + 1) s m u g gs = some (credB s m u g gs, 0) := by
  have hpl := putL_length (bytesOf m)
  have hps := padI_small (bytesOf m).length
  have hbm := bytesOf_length m
  unfold wharfingerref05_Put.f
  rw [if_neg (by omega), wharfingerref05_Put.j0, decide_eq_false (by omega), if_neg (by simp)]
  rw [r1put hs.1 hs.2, Option.bind_some, r3put (by omega), Option.bind_some, if_pos (by rw [beL_length]; omega), Option.bind_some, r1put hu.1 hu.2, Option.bind_some]
  rw [if_pos (by rw [List.length_append, beL_length, beL_length]; omega), Option.bind_some, r1put hg.1 hg.2, Option.bind_some]
  rw [if_pos (by simp only [List.length_append, beL_length]; omega), Option.bind_some]
  rw [show ((gs.length : Int) % 4294967296) = (gs.length : Int) by omega, r1put (by omega) (by omega), Option.bind_some]
  rw [if_pos (by simp only [List.length_append, beL_length]; omega)]
  have := rput_l0 u g gs (by omega) hgs gs.length k 0 ((((beL s 4 ++ putL (bytesOf m)) ++ beL u 4) ++ beL g 4) ++ beL gs.length 4) (by omega) (by omega) (by omega) (by simp only [List.length_append, beL_length]; omega)
  rw [show ((0 : Nat) : Int) = 0 from rfl] at this
  rw [this, List.drop_zero]
  simp only [credB, List.append_assoc]
theorem rPut_no (k : Nat) (s : Int) (m : ByteArray) (u g : Int) (gs : List Int) (h : 255 < m.size ∨ 16 < gs.length) : wharfingerref05_Put.f (k + 1) s m u g gs = some ([], 1) := by
  unfold wharfingerref05_Put.f
  by_cases hm : (m.size : Int) > 255
  · rw [if_pos hm, wharfingerref05_Put.j0, if_pos rfl]
  · rw [if_neg hm, wharfingerref05_Put.j0, decide_eq_true (by omega), if_pos rfl]
/-- Both answer the same. -/
theorem put_both (s : Int) (m : ByteArray) (u g : Int) (gs : List Int) (hs : 0 ≤ s ∧ s < 4294967296) (hu : 0 ≤ u ∧ u < 4294967296) (hg : 0 ≤ g ∧ g < 4294967296) (hgs : ∀ n ∈ gs, 0 ≤ n ∧ n < 4294967296) :
    ∃ (x : List Int) (e : Int), creds_Put.f 31 s m u g gs = some (x, e) ∧ wharfingerref05_Put.f 31 s m u g gs = some (x, e) ∧ x.length ≤ 1000 := by
  by_cases h : 255 < m.size ∨ 16 < gs.length
  · exact ⟨_, _, cPut_no 30 s m u g gs h, rPut_no 30 s m u g gs h, Nat.zero_le _⟩
  · refine ⟨_, _, cPut_ok 30 s m u g gs (by omega) (by omega) (by omega), rPut_ok 30 s m u g gs hs hu hg hgs (by omega) (by omega) (by omega), ?_⟩
    have := credB_most s m u g gs (by omega) (by omega)
    omega

/-! ### What the document's own Get answers -/
def numsOf : Nat → List Int → List Int
  | 0, _ => []
  | n + 1, l => deB (l.take 4) :: numsOf n (l.drop 4)
theorem numsOf_length : ∀ (n : Nat) (l : List Int), (numsOf n l).length = n
  | 0, _ => rfl
  | n + 1, l => by rw [numsOf, List.length_cons, numsOf_length n]
theorem r1get {l : List Int} (h : byteOk l = true) : wharfingerref01_Get.f l = some (if l.length < 4 then 0 else deB (l.take 4), if l.length < 4 then 4 else 0) := by
  unfold wharfingerref01_Get.f words_Get.f; rw [if_pos (byteOk_take h 4)]
theorem rnum_l0 (l : List Int) (N : Nat) (hb : byteOk l = true) (hl : l.length ≤ 140737488351232) (hN : N ≤ 1000) : ∀ (n k i at_ : Nat) (acc : List Int), i + n = N → at_ ≤ l.length → n < k → acc.length = i → wharfingerref05_numbers.l0 k l (at_ : Int) (N : Int) acc (i : Int) = some (if (l.drop at_).length < 4 * n then ([], 0, 4) else (acc ++ numsOf n (l.drop at_), ((at_ + 4 * n : Nat) : Int), 0)) := by
  intro n
  induction n with
  | zero =>
    intro k i a acc h1 h2 h3 h4
    obtain ⟨k, rfl⟩ : ∃ k', k = k' + 1 := ⟨k - 1, by omega⟩
    rw [wharfingerref05_numbers.l0, if_neg (by omega), if_neg (by omega), numsOf, List.append_nil, Nat.mul_zero, Nat.add_zero]
  | succ n ih =>
    intro k i a acc h1 h2 h3 h4
    obtain ⟨k, rfl⟩ : ∃ k', k = k' + 1 := ⟨k - 1, by omega⟩
    rw [wharfingerref05_numbers.l0, if_pos (by omega), if_pos (by omega), if_pos (by omega), Int.toNat_natCast, r1get (byteOk_drop hb a), Option.bind_some]
    dsimp only
    by_cases h : (l.drop a).length < 4
    · rw [if_pos h, if_neg (by decide), if_pos (by omega)]
    · have hd : (l.drop a).length = l.length - a := List.length_drop ..
      rw [if_neg h, if_pos rfl, if_pos (by omega), if_neg h, wrap_in (by omega) (by omega), wrap_in (by omega) (by omega)]
      rw [show ((a : Int) + 4) = ((a + 4 : Nat) : Int) by omega, show ((i : Int) + 1) = ((i + 1 : Nat) : Int) by omega]
      rw [ih k (i + 1) (a + 4) _ (by omega) (by omega) (by omega) (by rw [List.length_append, h4]; rfl)]
      rw [show l.drop (a + 4) = (l.drop a).drop 4 by rw [List.drop_drop], List.length_drop]
      by_cases h5 : (l.drop a).length < 4 * (n + 1)
      · rw [if_pos h5, if_pos (by omega)]
      · rw [if_neg h5, if_neg (by omega), numsOf, List.append_assoc, show a + 4 + 4 * n = a + 4 * (n + 1) by omega]
        rfl
theorem rnum_f (k : Nat) (l : List Int) (a N : Nat) (hb : byteOk l = true) (hl : l.length ≤ 140737488351232) (hN : N ≤ 1000) (ha : a ≤ l.length) (hk : N < k) : wharfingerref05_numbers.f k l (a : Int) (N : Int) = some (if (l.drop a).length < 4 * N then ([], 0, 4) else (numsOf N (l.drop a), ((a + 4 * N : Nat) : Int), 0)) := by
  unfold wharfingerref05_numbers.f
  have := rnum_l0 l N hb hl hN N k 0 a [] (by omega) ha hk rfl
  rw [List.nil_append, show ((0 : Nat) : Int) = 0 from rfl] at this
  exact this
theorem numG_ge {l : List Int} (h : 4 ≤ l.length) : numG l 0 = (deB (l.take 4), l.drop 4, 0) := by
  unfold numG; rw [if_pos rfl, if_neg (by omega)]
theorem grpG_few : ∀ (n : Nat) (gs l : List Int), l.length < 4 * n → ∃ gs' l', grpG n gs l 0 = (gs', l', 4)
  | 0, gs, l, h => by omega
  | n + 1, gs, l, h => by
    rw [grpG, if_pos rfl]
    by_cases h4 : l.length < 4
    · rw [numG_low h4]; exact ⟨_, _, grpG_err (e := 4) (by decide) _ _ _⟩
    · rw [numG_ge (by omega)]; exact grpG_few n _ _ (by rw [List.length_drop]; omega)
theorem grpG_many : ∀ (n : Nat) (gs l : List Int), 4 * n ≤ l.length → grpG n gs l 0 = (gs ++ numsOf n l, l.drop (4 * n), 0)
  | 0, gs, l, h => by rw [grpG, numsOf, List.append_nil]; rfl
  | n + 1, gs, l, h => by
    rw [grpG, if_pos rfl, numG_ge (by omega)]
    rw [grpG_many n _ _ (by rw [List.length_drop]; omega), numsOf, List.append_assoc, List.drop_drop, show 4 + 4 * n = 4 * (n + 1) by omega]
    rfl
/-- The steps of the reader, given one by one. -/
theorem credG_of {l l1 l2 l3 l4 l5 l6 gs : List Int} {s u g k e1 e2 e3 e4 e5 e6 : Int} {m : ByteArray} (h1 : numG l 0 = (s, l1, e1)) (h2 : strG l1 e1 = (m, l2, e2)) (h3 : numG l2 e2 = (u, l3, e3)) (h4 : numG l3 e3 = (g, l4, e4)) (h5 : numG l4 e4 = (k, l5, e5)) (h6 : grpG k.toNat [] l5 (limG k e5) = (gs, l6, e6)) :
    credG l = if endG l6 e6 = 0 then ⟨s, m, u, g, gs, 0⟩ else ⟨0, ByteArray.empty, 0, 0, [], endG l6 e6⟩ := by
  unfold credG
  rw [h1]; dsimp only; rw [h2]; dsimp only; rw [h3]; dsimp only; rw [h4]; dsimp only; rw [h5]; dsimp only; rw [h6]
theorem end_err {l : List Int} {e : Int} (h : e ≠ 0) : endG l e = e := by unfold endG; rw [if_neg h]
theorem lim_err {k e : Int} (h : e ≠ 0) : limG k e = e := by unfold limG; rw [if_neg h]
theorem lim_grp {k e : Int} {l : List Int} (h : e ≠ 0) : grpG k.toNat [] l (limG k e) = ([], l, e) := by rw [lim_err h]; exact grpG_err h _ _ _
theorem lim_grp0 {q : Nat} {e : Int} {l : List Int} {r : List Int × List Int × Int} (h : limG q e = 0) (hg : grpG q [] l 0 = r) : grpG ((q : Int)).toNat [] l (limG q e) = r := by rw [h, Int.toNat_natCast]; exact hg
theorem lim_grp3 {q : Int} {l : List Int} (h : q > 16) : grpG q.toNat [] l (limG q 0) = ([], l, 3) := by rw [show limG q 0 = 3 by unfold limG; rw [if_pos rfl, if_pos h]]; exact grpG_err (by decide) _ _ _
theorem rGet_f (l : List Int) (hb : byteOk l = true) (hl : l.length ≤ 140737488351232) : wharfingerref05_Get.f 40 l = some ((credG l).s, (credG l).m, (credG l).u, (credG l).g, (credG l).gs, (credG l).e) := by
  unfold wharfingerref05_Get.f
  have hn1 : wharfingerref05_numbers.f 40 l 0 1 = _ := rnum_f 40 l 0 1 hb hl (by omega) (by omega) (by omega)
  rw [hn1, Option.bind_some, List.drop_zero]
  by_cases h1 : l.length < 4
  · rw [if_pos (show l.length < 4 * 1 by omega)]
    dsimp only
    have hc := credG_of (numG_low h1) (strG_else (e := 4) (by decide)) (numG_err (e := 4) _ (by decide)) (numG_err (e := 4) _ (by decide)) (numG_err (e := 4) _ (by decide)) (lim_grp (e := 4) (by decide))
    rw [end_err (by decide), if_neg (by decide)] at hc
    rw [if_neg (by decide), hc]
    rfl
  rw [if_neg (show ¬ l.length < 4 * 1 by omega)]
  dsimp only
  have a1 := numG_ge (l := l) (by omega)
  have hb1 : byteOk (l.drop 4) = true := byteOk_drop hb 4
  obtain ⟨m, n, e, hs, hn⟩ := sget_some hb1
  have a2 := strG_zero hs
  rw [List.length_drop] at hn
  rw [if_pos rfl, if_pos (by omega), if_pos (by omega), Int.toNat_natCast, show 0 + 4 * 1 = 4 from rfl]
  rw [show wharfingerref03_Get.f (l.drop 4) 255 = some (m, (n : Int), e) by unfold wharfingerref03_Get.f; rw [if_pos ⟨hb1, by rw [List.length_drop]; omega⟩]; exact hs, Option.bind_some]
  dsimp only
  by_cases he : e = 0
  case neg =>
    rw [if_neg he]
    have hc := credG_of a1 a2 (numG_err _ he) (numG_err _ he) (numG_err _ he) (lim_grp he)
    rw [end_err he, if_neg he] at hc
    rw [hc]
    rfl
  subst he
  have hn3 : wharfingerref05_numbers.f 40 l ((4 + n : Nat) : Int) 3 = _ := rnum_f 40 l (4 + n) 3 hb hl (by omega) (by omega) (by omega)
  rw [if_pos rfl, wrap_in (by omega) (by omega), show ((4 : Nat) : Int) + (n : Int) = ((4 + n : Nat) : Int) by omega, hn3, Option.bind_some]
  obtain ⟨y, hy⟩ : ∃ y, l.drop (4 + n) = y := ⟨_, rfl⟩
  have hyl : y.length = l.length - (4 + n) := by rw [← hy, List.length_drop]
  have hby : byteOk y = true := hy ▸ byteOk_drop hb _
  rw [List.drop_drop, hy] at a2
  rw [hy]
  by_cases h3 : y.length < 4 * 3
  · rw [if_pos h3]
    dsimp only
    rw [if_neg (by decide)]
    have hc : ∃ s m u g gs, credG l = if endG [] 4 = 0 then ⟨s, m, u, g, gs, 0⟩ else ⟨0, ByteArray.empty, 0, 0, [], 4⟩ := by
      by_cases q1 : y.length < 4
      · have hc := credG_of a1 a2 (numG_low q1) (numG_err (e := 4) _ (by decide)) (numG_err (e := 4) _ (by decide)) (lim_grp (e := 4) (by decide))
        exact ⟨_, _, _, _, _, hc⟩
      · have b1 := numG_ge (l := y) (by omega)
        by_cases q2 : y.length < 8
        · have hc := credG_of a1 a2 b1 (numG_low (by rw [List.length_drop]; omega)) (numG_err (e := 4) _ (by decide)) (lim_grp (e := 4) (by decide))
          exact ⟨_, _, _, _, _, hc⟩
        · have hc := credG_of a1 a2 b1 (numG_ge (by rw [List.length_drop]; omega)) (numG_low (by rw [List.length_drop, List.length_drop]; omega)) (lim_grp (e := 4) (by decide))
          exact ⟨_, _, _, _, _, hc⟩
    obtain ⟨_, _, _, _, _, hc⟩ := hc
    rw [if_neg (by decide)] at hc
    rw [hc]
    rfl
  rw [if_neg h3]
  dsimp only
  have b1 := numG_ge (l := y) (by omega)
  have b2 := numG_ge (l := y.drop 4) (by rw [List.length_drop]; omega)
  have b3 := numG_ge (l := (y.drop 4).drop 4) (by rw [List.length_drop, List.length_drop]; omega)
  rw [if_pos rfl, numsOf_length, if_pos (by decide)]
  rw [show rd (numsOf 3 y) 2 = deB (((y.drop 4).drop 4).take 4) from rfl, show rd (numsOf 3 y) 0 = deB (y.take 4) from rfl, show rd (numsOf 3 y) 1 = deB ((y.drop 4).take 4) from rfl]
  have hkr := deB_range 4 (((y.drop 4).drop 4).take 4) (by simp; omega) (byteOk_take (byteOk_drop (byteOk_drop hby 4) 4) 4)
  obtain ⟨q, hq⟩ : ∃ q : Nat, deB (((y.drop 4).drop 4).take 4) = q := ⟨(deB (((y.drop 4).drop 4).take 4)).toNat, by omega⟩
  rw [hq] at b3 hkr ⊢
  have hz : ((y.drop 4).drop 4).drop 4 = y.drop 12 := by rw [List.drop_drop, List.drop_drop]
  rw [hz] at b3
  by_cases h16 : (q : Int) > 16
  · rw [if_pos h16]
    have hc := credG_of a1 a2 b1 b2 b3 (lim_grp3 h16)
    rw [end_err (by decide), if_neg (by decide)] at hc
    rw [hc]
    rfl
  rw [if_neg h16, wrap_in (by omega) (by omega), rnum_f 40 l (4 + n + 4 * 3) q hb hl (by omega) (by omega) (by omega), Option.bind_some]
  have hl0 : limG q 0 = 0 := by unfold limG; rw [if_pos rfl, if_neg h16]
  have hyz : l.drop (4 + n + 4 * 3) = y.drop 12 := by rw [← hy, List.drop_drop]
  rw [hyz]
  by_cases h5 : (y.drop 12).length < 4 * q
  · rw [if_pos h5]
    dsimp only
    rw [if_neg (by decide)]
    obtain ⟨gs', l', hgr⟩ := grpG_few q [] (y.drop 12) h5
    have hc := credG_of a1 a2 b1 b2 b3 (lim_grp0 hl0 hgr)
    rw [end_err (by decide), if_neg (by decide)] at hc
    rw [hc]
    rfl
  rw [if_neg h5]
  dsimp only
  rw [if_pos rfl]
  have hgr := grpG_many q [] (y.drop 12) (by omega)
  have hc := credG_of a1 a2 b1 b2 b3 (lim_grp0 hl0 hgr)
  rw [List.nil_append] at hc
  have hdl : (y.drop 12).length = y.length - 12 := List.length_drop ..
  by_cases h6 : ((4 + n + 4 * 3 + 4 * q : Nat) : Int) < (l.length : Int)
  · rw [if_pos h6]
    have h7 : endG ((y.drop 12).drop (4 * q)) 0 = 5 := by unfold endG; rw [if_pos rfl, if_pos (by rw [List.length_drop]; omega)]
    rw [h7, if_neg (by decide)] at hc
    rw [hc]
    rfl
  · rw [if_neg h6]
    have h7 : endG ((y.drop 12).drop (4 * q)) 0 = 0 := by unfold endG; rw [if_pos rfl, if_neg (by rw [List.length_drop]; omega)]
    rw [h7, if_pos rfl] at hc
    rw [numsOf_length, if_pos (by decide), if_pos (by decide), if_pos (by decide), hc]
    rfl
theorem grpG_len {e : Int} : ∀ (n : Nat) (gs l : List Int) (e : Int), (grpG n gs l e).1.length ≤ gs.length + n
  | 0, gs, l, e => Nat.le_refl _
  | n + 1, gs, l, e => by
    rw [grpG]
    by_cases he : e = 0
    · rw [if_pos he]
      have := grpG_len (e := e) n (gs ++ [(numG l e).1]) (numG l e).2.1 (numG l e).2.2
      rw [List.length_append, List.length_singleton] at this
      omega
    · rw [if_neg he]; dsimp only; omega
theorem credG_len (l : List Int) : (credG l).gs.length ≤ 16 := by
  obtain ⟨s, l1, e1, h1⟩ : ∃ s l1 e1, numG l 0 = (s, l1, e1) := ⟨_, _, _, rfl⟩
  obtain ⟨m, l2, e2, h2⟩ : ∃ s l2 e2, strG l1 e1 = (s, l2, e2) := ⟨_, _, _, rfl⟩
  obtain ⟨u, l3, e3, h3⟩ : ∃ s l3 e3, numG l2 e2 = (s, l3, e3) := ⟨_, _, _, rfl⟩
  obtain ⟨g, l4, e4, h4⟩ : ∃ s l4 e4, numG l3 e3 = (s, l4, e4) := ⟨_, _, _, rfl⟩
  obtain ⟨k, l5, e5, h5⟩ : ∃ s l5 e5, numG l4 e4 = (s, l5, e5) := ⟨_, _, _, rfl⟩
  obtain ⟨gs, l6, e6, h6⟩ : ∃ s l6 e6, grpG k.toNat [] l5 (limG k e5) = (s, l6, e6) := ⟨_, _, _, rfl⟩
  have hgl : gs.length ≤ 16 := by
    by_cases hk : limG k e5 = 0
    · have h7 := limG_zero hk
      have h8 := grpG_len (e := 0) k.toNat [] l5 (limG k e5)
      rw [h6] at h8
      simp only [List.length_nil] at h8
      omega
    · rw [grpG_err hk] at h6
      simp only [Prod.mk.injEq] at h6
      rw [← h6.1]; exact Nat.zero_le _
  rw [credG_of h1 h2 h3 h4 h5 h6]
  by_cases he : endG l6 e6 = 0
  · rw [if_pos he]; exact hgl
  · rw [if_neg he]; exact Nat.zero_le _
theorem get_both (l : List Int) (hb : byteOk l = true) (hl : l.length ≤ 140737488351232) :
    ∃ (s : Int) (m : ByteArray) (u g : Int) (x : List Int) (e : Int), creds_Get.f l = some (s, m, u, g, x, e) ∧ wharfingerref05_Get.f 40 l = some (s, m, u, g, x, e) ∧ x.length ≤ 16 :=
  ⟨_, _, _, _, _, _, by unfold creds_Get.f; rw [if_pos hb], rGet_f l hb hl, credG_len l⟩

/-! ### Calls: what stands ahead of a body -/
/-- Is a number what is asked for (none: any)? -/
def askG (s : Option Int) (n : Int) : Int := match s with | some m => if n = m then 0 else 5 | none => 0
/-- Numbers out of bytes, some of which must be given ones. -/
def hdS : List (Option Int) → List Int → Int → List Int × List Int × Int
  | [], l, e => ([], l, e)
  | s :: ss, l, e =>
    ((numG l e).1 :: (hdS ss (numG l e).2.1 (if (numG l e).2.2 = 0 then askG s (numG l e).1 else (numG l e).2.2)).1,
      (hdS ss (numG l e).2.1 (if (numG l e).2.2 = 0 then askG s (numG l e).1 else (numG l e).2.2)).2.1,
      (hdS ss (numG l e).2.1 (if (numG l e).2.2 = 0 then askG s (numG l e).1 else (numG l e).2.2)).2.2)
/-- What the seven numbers of a call must be. -/
def callAsk : List (Option Int) := [none, some 0, some 2, none, none, none, none]
/-- Bytes that say who calls. -/
def authG (l : List Int) (e : Int) : List Int × List Int × Int :=
  if e = 0 then (match opaque_Get.f l 400 with | some (x, n, e) => (x, l.drop n.toNat, e) | none => ([], l, 4)) else ([], l, e)
def flaG (f e : Int) : Int := if e = 0 then (if 1 < f then 5 else 0) else e
def credZ (e : Int) : CredR := ⟨0, ByteArray.empty, 0, 0, [], e⟩
/-- Who calls, behind the seven numbers; the bytes behind. -/
def whoG (f : Int) (l : List Int) (e : Int) : CredR × List Int :=
  if (authG l e).2.2 = 0 then (if f = 1 then (credG (authG l e).1, (authG l e).2.1) else (credZ (if (authG l e).1 = [] then 0 else 5), (authG l e).2.1)) else (credZ (authG l e).2.2, (authG l e).2.1)
def mustE (n : Int) (l : List Int) (e : Int) : Int := if (numG l e).2.2 = 0 then askG (some n) (numG l e).1 else (numG l e).2.2
def sureG (l : List Int) (e : Int) : List Int × Int :=
  ((authG (numG l e).2.1 (mustE 0 l e)).2.1, if (authG (numG l e).2.1 (mustE 0 l e)).2.2 = 0 then (if (authG (numG l e).2.1 (mustE 0 l e)).1 = [] then 0 else 5) else (authG (numG l e).2.1 (mustE 0 l e)).2.2)
/-- A call, and an error. -/
structure CallR where
  x : Int
  p : Int
  v : Int
  o : Int
  f : Int
  m : ByteArray
  s : Int
  u : Int
  g : Int
  gs : List Int
  b : List Int
  e : Int
def callZ (e : Int) : CallR := ⟨0, 0, 0, 0, 0, ByteArray.empty, 0, 0, 0, [], [], e⟩
/-- A call out of bytes, of whatever length. -/
def callH (l : List Int) : CallR :=
  let h := hdS callAsk l 0
  let w := whoG (rd h.1 6) h.2.1 (flaG (rd h.1 6) h.2.2)
  let s := sureG w.2 w.1.e
  if s.2 = 0 then ⟨rd h.1 0, rd h.1 3, rd h.1 4, rd h.1 5, rd h.1 6, w.1.m, w.1.s, w.1.u, w.1.g, w.1.gs, s.1, 0⟩ else callZ s.2
def callG (l : List Int) : CallR := if 65536 < l.length then callZ 3 else callH l

/-- The bytes that say who calls. -/
def whoL (f : Int) (m : ByteArray) (s u g : Int) (gs : List Int) : List Int := if f = 1 then credB s m u g gs else []
/-- The bytes of a call ahead of its body. -/
def callB (x p v o f : Int) (m : ByteArray) (s u g : Int) (gs : List Int) : List Int := numsL [x, 0, 2, p, v, o, f] ++ (putL (whoL f m s u g gs) ++ (beL 0 4 ++ putL []))
/-- Is anything told of who calls? -/
def toldB (m : ByteArray) (s u g : Int) (gs : List Int) : Bool := !(m.size == 0) || !(s == 0) || !(u == 0) || !(g == 0) || !(gs.length == 0)

abbrev R32 (n : Int) : Prop := 0 ≤ n ∧ n < 4294967296
theorem hdS_err {e : Int} (h : e ≠ 0) : ∀ (ss : List (Option Int)) (l : List Int), (hdS ss l e).2.2 = e
  | [], l => rfl
  | s :: ss, l => by
    show (hdS ss (numG l e).2.1 _).2.2 = e
    rw [numG_err l h]; dsimp only; rw [if_neg h]; exact hdS_err h ss l
/-- Numbers as they are asked for. -/
def Fits : List (Option Int) → List Int → Prop
  | [], [] => True
  | s :: ss, n :: ns => R32 n ∧ askG s n = 0 ∧ Fits ss ns
  | _, _ => False
theorem hdS_be : ∀ (ss : List (Option Int)) (ns rest : List Int), Fits ss ns → hdS ss (numsL ns ++ rest) 0 = (ns, rest, 0)
  | [], [], rest, _ => rfl
  | [], _ :: _, _, h => h.elim
  | _ :: _, [], _, h => h.elim
  | s :: ss, n :: ns, rest, h => by
    obtain ⟨h1, h2, h3⟩ := h
    unfold hdS
    rw [show numsL (n :: ns) ++ rest = beL n 4 ++ (numsL ns ++ rest) from List.append_assoc _ _ _, numG_be n _ h1.1 h1.2]; dsimp only
    rw [if_pos rfl, h2, hdS_be ss ns rest h3]
theorem hdS_cut : ∀ (ss : List (Option Int)) (ns : List Int) (i : Nat), Fits ss ns → i < 4 * ns.length → (hdS ss ((numsL ns).take i) 0).2.2 = 4
  | [], [], i, _, h => by simp at h
  | [], _ :: _, _, h, _ => h.elim
  | _ :: _, [], _, h, _ => h.elim
  | s :: ss, n :: ns, i, h, hi => by
    obtain ⟨h1, h2, h3⟩ := h
    unfold hdS
    rw [show numsL (n :: ns) = beL n 4 ++ numsL ns from rfl]
    by_cases h4 : i < 4
    · rw [numG_low (by rw [List.length_take]; omega)]; dsimp only
      rw [if_neg (by omega)]; exact hdS_err (by omega) _ _
    · rw [take_be n _ i (by omega), numG_be n _ h1.1 h1.2]; dsimp only
      rw [if_pos rfl, h2]
      exact hdS_cut ss ns (i - 4) h3 (by simp at hi; omega)
/-- One that is not what is asked for is refused. -/
theorem hdS_other : ∀ (qs : List (Option Int)) (ns : List Int) (s : Option Int) (ss : List (Option Int)) (n : Int) (rest : List Int), Fits qs ns → R32 n → askG s n = 5 → (hdS (qs ++ s :: ss) (numsL ns ++ (beL n 4 ++ rest)) 0).2.2 = 5
  | [], [], s, ss, n, rest, _, h1, h2 => by
    show (hdS (s :: ss) (beL n 4 ++ rest) 0).2.2 = 5
    unfold hdS
    rw [numG_be n _ h1.1 h1.2]; dsimp only
    rw [if_pos rfl, h2]; exact hdS_err (by omega) _ _
  | [], _ :: _, _, _, _, _, h, _, _ => h.elim
  | _ :: _, [], _, _, _, _, h, _, _ => h.elim
  | a :: qs, m :: ns, s, ss, n, rest, h, h1, h2 => by
    obtain ⟨k1, k2, k3⟩ := h
    show (hdS (a :: (qs ++ s :: ss)) _ 0).2.2 = 5
    unfold hdS
    rw [show numsL (m :: ns) ++ (beL n 4 ++ rest) = beL m 4 ++ (numsL ns ++ (beL n 4 ++ rest)) from List.append_assoc _ _ _, numG_be m _ k1.1 k1.2]; dsimp only
    rw [if_pos rfl, k2]
    exact hdS_other qs ns s ss n rest k3 h1 h2
theorem askG_cases (s : Option Int) (n : Int) : askG s n = 0 ∨ askG s n = 5 := by
  unfold askG; cases s with
  | none => exact .inl rfl
  | some m => by_cases h : n = m
              · dsimp only; rw [if_pos h]; exact .inl rfl
              · dsimp only; rw [if_neg h]; exact .inr rfl
theorem numG_e {l : List Int} : (numG l 0).2.2 = 0 ∨ (numG l 0).2.2 = 4 := by
  unfold numG; rw [if_pos rfl]; by_cases h : l.length < 4
  · rw [if_pos h]; exact .inr rfl
  · rw [if_neg h]; exact .inl rfl
theorem hdS_e : ∀ (ss : List (Option Int)) (l : List Int), (hdS ss l 0).2.2 = 0 ∨ (hdS ss l 0).2.2 = 4 ∨ (hdS ss l 0).2.2 = 5
  | [], l => .inl rfl
  | s :: ss, l => by
    show (hdS ss (numG l 0).2.1 (if (numG l 0).2.2 = 0 then askG s (numG l 0).1 else (numG l 0).2.2)).2.2 = 0 ∨ (hdS ss (numG l 0).2.1 (if (numG l 0).2.2 = 0 then askG s (numG l 0).1 else (numG l 0).2.2)).2.2 = 4 ∨ (hdS ss (numG l 0).2.1 (if (numG l 0).2.2 = 0 then askG s (numG l 0).1 else (numG l 0).2.2)).2.2 = 5
    rcases numG_e (l := l) with h | h
    · rw [h, if_pos rfl]
      rcases askG_cases s (numG l 0).1 with k | k
      · rw [k]; exact hdS_e ss _
      · rw [k, hdS_err (by omega)]; exact .inr (.inr rfl)
    · rw [h, if_neg (by omega), hdS_err (by omega)]; exact .inr (.inl rfl)
theorem hdS_inv : ∀ (ss : List (Option Int)) (l ns l' : List Int), byteOk l = true → hdS ss l 0 = (ns, l', 0) → Fits ss ns ∧ l = numsL ns ++ l'
  | [], l, ns, l', _, h => by
    simp only [hdS, Prod.mk.injEq] at h
    obtain ⟨rfl, rfl, _⟩ := h
    exact ⟨trivial, rfl⟩
  | s :: ss, l, ns, l', hb, h => by
    unfold hdS at h
    simp only [Prod.mk.injEq] at h
    obtain ⟨rfl, h2, h3⟩ := h
    have hr := numG_range hb 0
    rcases numG_e (l := l) with h0 | h0
    · rw [h0, if_pos rfl] at h2 h3 ⊢
      rcases askG_cases s (numG l 0).1 with k | k
      · rw [k] at h2 h3 ⊢
        obtain ⟨k1, k2⟩ := hdS_inv ss (numG l 0).2.1 _ l' (numG_ok hb 0) (Prod.ext rfl (Prod.ext h2 h3))
        refine ⟨⟨hr, k, k1⟩, ?_⟩
        have := (numG_inv hb (l' := (numG l 0).2.1) (x := (numG l 0).1) (e0 := 0) (Prod.ext rfl (Prod.ext rfl h0))).2
        conv => lhs; rw [this, k2]
        exact (List.append_assoc _ _ _).symm
      · rw [k, hdS_err (by omega)] at h3; omega
    · rw [h0, if_neg (by omega), hdS_err (by omega)] at h3; omega
theorem hdS_len : ∀ (ss : List (Option Int)) (l : List Int) (e : Int), (hdS ss l e).1.length = ss.length
  | [], _, _ => rfl
  | s :: ss, l, e => by unfold hdS; simp only [List.length_cons]; rw [hdS_len]
theorem hdS_ok : ∀ (ss : List (Option Int)) (l : List Int) (e : Int), byteOk l = true → byteOk (hdS ss l e).2.1 = true
  | [], _, _, h => h
  | s :: ss, l, e, h => by unfold hdS; exact hdS_ok ss _ _ (numG_ok h e)

theorem authG_err {e : Int} (l : List Int) (h : e ≠ 0) : authG l e = ([], l, e) := by unfold authG; rw [if_neg h]
theorem authG_put (xs rest : List Int) (h : xs.length ≤ 400) : authG (putL xs ++ rest) 0 = (xs, rest, 0) := by
  have h2 := padI_range xs.length
  have h3 := putL_length xs
  unfold authG
  rw [if_pos rfl, get_put xs rest 400 (by omega) (by omega)]
  dsimp only
  rw [show (4 + (xs.length : Int) + padI xs.length).toNat = (putL xs).length by omega, List.drop_left]
theorem authG_cut (xs : List Int) (i : Nat) (h : xs.length ≤ 400) (hi : i < (putL xs).length) : (authG ((putL xs).take i) 0).2.2 = 4 := by
  unfold authG
  rw [if_pos rfl, get_put_cut xs i 400 (by omega) (by omega) hi]
theorem authG_ok {l : List Int} (h : byteOk l = true) (e : Int) : byteOk (authG l e).1 = true ∧ byteOk (authG l e).2.1 = true := by
  unfold authG
  by_cases he : e = 0
  · rw [if_pos he]
    rcases get_again l 400 h with ⟨e, _, hg⟩ | ⟨xs, n, hg, _, _, _, hx, _⟩
    · rw [hg]; exact ⟨rfl, byteOk_drop h _⟩
    · rw [hg]; exact ⟨hx, byteOk_drop h _⟩
  · rw [if_neg he]; exact ⟨rfl, h⟩
theorem authG_inv {l : List Int} {e0 : Int} (hb : byteOk l = true) (h : (authG l e0).2.2 = 0) : e0 = 0 ∧ l = putL (authG l e0).1 ++ (authG l e0).2.1 ∧ (authG l e0).1.length ≤ 400 := by
  unfold authG at h ⊢
  by_cases he : e0 = 0
  · rw [if_pos he] at h ⊢
    rcases get_again l 400 hb with ⟨e, hz, hg⟩ | ⟨xs, n, hg, hn, hm, hp, _⟩
    · rw [hg] at h; exact absurd h hz
    · rw [hg]
      dsimp only
      refine ⟨he, ?_, by omega⟩
      rw [hp, Int.toNat_natCast, List.take_append_drop]
  · rw [if_neg he] at h; exact absurd h he
theorem cutS_e (xs : List Int) (n : Nat) : cutS xs n = 4 ∨ cutS xs n = 0 ∨ cutS xs n = 5 := by
  rcases cutS_cases xs n with h | h | h
  · exact .inl h.1
  · exact .inr (.inl h.1)
  · exact .inr (.inr h.1)
theorem authG_e {l : List Int} (hb : byteOk l = true) : (authG l 0).2.2 = 0 ∨ (authG l 0).2.2 = 3 ∨ (authG l 0).2.2 = 4 ∨ (authG l 0).2.2 = 5 := by
  unfold authG opaque_Get.f
  rw [if_pos rfl, if_pos (byteOk_take hb 4)]
  by_cases h4 : l.length < 4
  · rw [if_pos h4]; simp
  · rw [if_neg h4]
    by_cases h5 : 400 < deB (l.take 4)
    · rw [if_pos h5]; simp
    · rw [if_neg h5]
      by_cases h6 : cutS (l.drop 4) (deB (l.take 4)).toNat = 0
      · rw [if_pos h6]; simp
      · rw [if_neg h6]
        dsimp only
        rcases cutS_e (l.drop 4) (deB (l.take 4)).toNat with h | h | h
        · exact .inr (.inr (.inl h))
        · exact absurd h h6
        · exact .inr (.inr (.inr h))

theorem sureG_put (b : List Int) : sureG (beL 0 4 ++ (putL [] ++ b)) 0 = (b, 0) := by
  unfold sureG mustE
  rw [numG_be 0 _ (by omega) (by omega)]; dsimp only
  rw [if_pos rfl, show askG (some 0) 0 = 0 from rfl, authG_put [] b (by simp)]; dsimp only
  rw [if_pos rfl, if_pos rfl]
theorem sureG_err {e : Int} (l : List Int) (h : e ≠ 0) : (sureG l e).2 = e := by
  unfold sureG mustE
  rw [numG_err l h]; dsimp only
  rw [if_neg h, authG_err l h]; dsimp only
  rw [if_neg h]
theorem sureG_cut (i : Nat) (h : i < 8) : (sureG ((beL 0 4 ++ putL []).take i) 0).2 = 4 := by
  unfold sureG mustE
  by_cases h4 : i < 4
  · rw [numG_low (by rw [List.length_take]; omega)]; dsimp only
    rw [if_neg (show ¬ (4 : Int) = 0 by omega), authG_err _ (by omega)]; dsimp only
    rw [if_neg (by omega)]
  · rw [take_be 0 _ i (by omega), numG_be 0 _ (by omega) (by omega)]; dsimp only
    rw [if_pos rfl, show askG (some 0) 0 = 0 from rfl, authG_cut [] (i - 4) (by simp) (by rw [show (putL []).length = 4 from rfl]; omega)]
    rw [if_neg (by omega)]
theorem whoG_err {f e : Int} (l : List Int) (h : e ≠ 0) : (whoG f l e).1.e = e := by
  unfold whoG
  rw [authG_err l h]; dsimp only
  rw [if_neg h]; rfl
/-- A call whose parts may be. -/
structure CallOk (x p v o f : Int) (m : ByteArray) (s u g : Int) (gs : List Int) : Prop where
  hx : R32 x
  hp : R32 p
  hv : R32 v
  ho : R32 o
  hf : f = 0 ∨ f = 1
  f0 : f = 0 → m = ByteArray.empty ∧ s = 0 ∧ u = 0 ∧ g = 0 ∧ gs = []
  f1 : f = 1 → m.size ≤ 255 ∧ gs.length ≤ 16
  hs : R32 s
  hu : R32 u
  hg : R32 g
  hgs : ∀ n ∈ gs, R32 n
theorem whoL_most {f : Int} {m : ByteArray} {s u g : Int} {gs : List Int} (h1 : f = 1 → m.size ≤ 255 ∧ gs.length ≤ 16) : (whoL f m s u g gs).length ≤ 400 := by
  unfold whoL
  by_cases hf : f = 1
  · rw [if_pos hf]; exact credB_most s m u g gs (h1 hf).1 (h1 hf).2
  · rw [if_neg hf]; simp
theorem whoG_put {x p v o f : Int} {m : ByteArray} {s u g : Int} {gs : List Int} (h : CallOk x p v o f m s u g gs) (rest : List Int) :
    whoG f (putL (whoL f m s u g gs) ++ rest) 0 = (⟨s, m, u, g, gs, 0⟩, rest) := by
  have hm := whoL_most (f := f) (m := m) (s := s) (u := u) (g := g) (gs := gs) h.f1
  unfold whoG
  rw [authG_put _ rest hm]; dsimp only
  rw [if_pos rfl]
  rcases h.hf with hf | hf
  · obtain ⟨rfl, rfl, rfl, rfl, rfl⟩ := h.f0 hf
    subst hf
    rfl
  · subst hf
    rw [if_pos rfl]
    unfold whoL
    rw [if_pos rfl]
    have := cred_read s m u g gs [] h.hs h.hu h.hg h.hgs (h.f1 rfl).1 (h.f1 rfl).2
    rw [List.append_nil, if_pos rfl] at this
    rw [this]
theorem fits_call {x p v o f : Int} (hx : R32 x) (hp : R32 p) (hv : R32 v) (ho : R32 o) (hf : R32 f) : Fits callAsk [x, 0, 2, p, v, o, f] :=
  ⟨hx, rfl, by unfold R32; omega, rfl, by unfold R32; omega, rfl, hp, rfl, hv, rfl, ho, rfl, hf, rfl, trivial⟩
theorem CallOk.fits {x p v o f : Int} {m : ByteArray} {s u g : Int} {gs : List Int} (h : CallOk x p v o f m s u g gs) : Fits callAsk [x, 0, 2, p, v, o, f] :=
  fits_call h.hx h.hp h.hv h.ho (by rcases h.hf with rfl | rfl <;> (unfold R32; omega))
theorem flaG_ok {f : Int} (h : f = 0 ∨ f = 1) : flaG f 0 = 0 := by unfold flaG; rw [if_pos rfl, if_neg (by omega)]
theorem flaG_err {f e : Int} (h : e ≠ 0) : flaG f e = e := by unfold flaG; rw [if_neg h]
theorem callB_app (x p v o f : Int) (m : ByteArray) (s u g : Int) (gs b : List Int) : callB x p v o f m s u g gs ++ b = numsL [x, 0, 2, p, v, o, f] ++ (putL (whoL f m s u g gs) ++ (beL 0 4 ++ (putL [] ++ b))) := by
  unfold callB; simp only [List.append_assoc]
theorem callB_length (x p v o f : Int) (m : ByteArray) (s u g : Int) (gs : List Int) : (callB x p v o f m s u g gs).length = 36 + (putL (whoL f m s u g gs)).length := by
  unfold callB
  simp only [List.length_append, numsL_length, beL_length, putL_length, List.length_cons, List.length_nil]
  have : (padI ((0 : Nat) : Int)).toNat = 0 := by decide
  omega
theorem call_read {x p v o f : Int} {m : ByteArray} {s u g : Int} {gs : List Int} (h : CallOk x p v o f m s u g gs) (b : List Int) :
    callH (callB x p v o f m s u g gs ++ b) = ⟨x, p, v, o, f, m, s, u, g, gs, b, 0⟩ := by
  rw [callB_app]
  unfold callH
  rw [hdS_be _ _ _ h.fits]; dsimp only
  rw [show rd [x, 0, 2, p, v, o, f] 6 = f from rfl, flaG_ok h.hf, whoG_put h]; dsimp only
  rw [sureG_put]; dsimp only
  rw [if_pos rfl]; rfl
theorem callH_err {l : List Int} {e : Int} (he : e ≠ 0) (h : (hdS callAsk l 0).2.2 = e) : callH l = callZ e := by
  unfold callH; dsimp only
  have hw : (whoG (rd (hdS callAsk l 0).1 6) (hdS callAsk l 0).2.1 (flaG (rd (hdS callAsk l 0).1 6) (hdS callAsk l 0).2.2)).1.e = e := by rw [h, flaG_err he, whoG_err _ he]
  rw [sureG_err _ (by rw [hw]; exact he), hw, if_neg he]
theorem call_cut {x p v o f : Int} {m : ByteArray} {s u g : Int} {gs : List Int} (h : CallOk x p v o f m s u g gs) (i : Nat) (hi : i < (callB x p v o f m s u g gs).length) :
    (callH ((callB x p v o f m s u g gs).take i)).e = 4 := by
  have hm := whoL_most (f := f) (m := m) (s := s) (u := u) (g := g) (gs := gs) h.f1
  rw [callB_length] at hi
  have n28 : (numsL [x, 0, 2, p, v, o, f]).length = 28 := by rw [numsL_length]; rfl
  by_cases h1 : i < 28
  · have h2 : (callB x p v o f m s u g gs).take i = (numsL [x, 0, 2, p, v, o, f]).take i := by
      unfold callB; rw [List.take_append_of_le_length (by omega)]
    rw [callH_err (e := 4) (by omega) (by rw [h2]; exact hdS_cut _ _ i h.fits (by simpa using h1))]; rfl
  · obtain ⟨j, hj⟩ : ∃ j, i - 28 = j := ⟨_, rfl⟩
    have h2 : (callB x p v o f m s u g gs).take i = numsL [x, 0, 2, p, v, o, f] ++ (putL (whoL f m s u g gs) ++ (beL 0 4 ++ putL [])).take j := by
      unfold callB; rw [List.take_append, List.take_of_length_le (by omega), n28, hj]
    rw [h2]
    unfold callH
    rw [hdS_be _ _ _ h.fits]; dsimp only
    rw [show rd [x, 0, 2, p, v, o, f] 6 = f from rfl, flaG_ok h.hf]
    by_cases h3 : j < (putL (whoL f m s u g gs)).length
    · rw [List.take_append_of_le_length (by omega)]
      have hw : (whoG f ((putL (whoL f m s u g gs)).take j) 0).1.e = 4 := by
        unfold whoG
        rw [authG_cut _ j hm h3, if_neg (by omega)]; rfl
      rw [sureG_err _ (by rw [hw]; omega), hw, if_neg (by omega)]; rfl
    · rw [List.take_append, List.take_of_length_le (by omega), whoG_put h]; dsimp only
      rw [sureG_cut _ (by omega), if_neg (by omega)]; rfl
theorem fits7 {ns : List Int} (h : Fits callAsk ns) : ∃ x p v o f, ns = [x, 0, 2, p, v, o, f] ∧ R32 x ∧ R32 p ∧ R32 v ∧ R32 o ∧ R32 f := by
  match ns, h with
  | [x, a, b, p, v, o, f], ⟨h1, _, _, h2, _, h3, h4, _, h5, _, h6, _, h7, _, _⟩ =>
    have ha : a = 0 := by unfold askG at h2; dsimp only at h2; by_cases e : a = 0
                          · exact e
                          · rw [if_neg e] at h2; omega
    have hb : b = 2 := by unfold askG at h3; dsimp only at h3; by_cases e : b = 2
                          · exact e
                          · rw [if_neg e] at h3; omega
    exact ⟨x, p, v, o, f, by rw [ha, hb], h1, h4, h5, h6, h7⟩
theorem flaG_inv {f e : Int} (h : flaG f e = 0) : e = 0 ∧ f ≤ 1 := by
  unfold flaG at h
  by_cases he : e = 0
  · rw [if_pos he] at h
    by_cases hf : 1 < f
    · rw [if_pos hf] at h; omega
    · exact ⟨he, by omega⟩
  · rw [if_neg he] at h; exact absurd h he
theorem credR_ranges {l : List Int} (hb : byteOk l = true) : ∃ s m u g gs e, credG l = ⟨s, m, u, g, gs, e⟩ ∧ (e = 0 → l = credB s m u g gs ∧ m.size ≤ 255 ∧ gs.length ≤ 16) := by
  rcases cred_again l hb with ⟨e, he, hc⟩ | ⟨s, m, u, g, gs, hc, h1, h2, h3⟩
  · exact ⟨_, _, _, _, _, _, hc, fun h => absurd h he⟩
  · exact ⟨_, _, _, _, _, _, hc, fun _ => ⟨h1, h2, h3⟩⟩

/-- Block C is a call. -/
def Call11 (w : World) (C : Nat) (x p v o f : Int) (m : ByteArray) (s u g : Int) (Vg Vb : Value) : Prop := w.heap[C]? = some (.cells #[.int .u32 x, .int .u32 p, .int .u32 v, .int .u32 o, .int .u32 f, .string m, .int .u32 s, .int .u32 u, .int .u32 g, Vg, Vb] 28 (0, 0))
section
variable {w w1 : World} {C : Nat} {x p v o f : Int} {m : ByteArray} {s u g : Int} {Vg Vb : Value}
theorem Call11.lt (h : Call11 w C x p v o f m s u g Vg Vb) : C < w.heap.size := (Array.getElem?_eq_some_iff.1 h).1
theorem Call11.fz (h : Call11 w C x p v o f m s u g Vg Vb) (i : Nat) : w.frozen? ⟨C, i, none⟩ = false := by simp [World.frozen?, show w.heap[C]? = _ from h]
theorem Call11.below (h : Call11 w C x p v o f m s u g Vg Vb) (hb : Below w.heap.size w w1) : Call11 w1 C x p v o f m s u g Vg Vb := (hb.block _ h.lt).trans h
theorem call11_new (W : World) (x p v o f : Int) (m : ByteArray) (s u g : Int) (Vg Vb : Value) : Call11 (W.alloc (.cells #[.int .u32 x, .int .u32 p, .int .u32 v, .int .u32 o, .int .u32 f, .string m, .int .u32 s, .int .u32 u, .int .u32 g, Vg, Vb] 28)) W.heap.size x p v o f m s u g Vg Vb := World.alloc_heap_new W _
theorem Call11.c0 (h : Call11 w C x p v o f m s u g Vg Vb) : w.cell? ⟨C, 0, none⟩ = some (.int .u32 x) := by simp [World.cell?, show w.heap[C]? = _ from h]
theorem Call11.c1 (h : Call11 w C x p v o f m s u g Vg Vb) : w.cell? ⟨C, 1, none⟩ = some (.int .u32 p) := by simp [World.cell?, show w.heap[C]? = _ from h]
theorem Call11.c2 (h : Call11 w C x p v o f m s u g Vg Vb) : w.cell? ⟨C, 2, none⟩ = some (.int .u32 v) := by simp [World.cell?, show w.heap[C]? = _ from h]
theorem Call11.c3 (h : Call11 w C x p v o f m s u g Vg Vb) : w.cell? ⟨C, 3, none⟩ = some (.int .u32 o) := by simp [World.cell?, show w.heap[C]? = _ from h]
theorem Call11.c4 (h : Call11 w C x p v o f m s u g Vg Vb) : w.cell? ⟨C, 4, none⟩ = some (.int .u32 f) := by simp [World.cell?, show w.heap[C]? = _ from h]
theorem Call11.c5 (h : Call11 w C x p v o f m s u g Vg Vb) : w.cell? ⟨C, 5, none⟩ = some (.string m) := by simp [World.cell?, show w.heap[C]? = _ from h]
theorem Call11.c6 (h : Call11 w C x p v o f m s u g Vg Vb) : w.cell? ⟨C, 6, none⟩ = some (.int .u32 s) := by simp [World.cell?, show w.heap[C]? = _ from h]
theorem Call11.c7 (h : Call11 w C x p v o f m s u g Vg Vb) : w.cell? ⟨C, 7, none⟩ = some (.int .u32 u) := by simp [World.cell?, show w.heap[C]? = _ from h]
theorem Call11.c8 (h : Call11 w C x p v o f m s u g Vg Vb) : w.cell? ⟨C, 8, none⟩ = some (.int .u32 g) := by simp [World.cell?, show w.heap[C]? = _ from h]
theorem Call11.c9 (h : Call11 w C x p v o f m s u g Vg Vb) : w.cell? ⟨C, 9, none⟩ = some (Vg) := by simp [World.cell?, show w.heap[C]? = _ from h]
theorem Call11.c10 (h : Call11 w C x p v o f m s u g Vg Vb) : w.cell? ⟨C, 10, none⟩ = some (Vb) := by simp [World.cell?, show w.heap[C]? = _ from h]
end

theorem toldE (m : ByteArray) : m.toList.isEmpty = (m.size == 0) := by
  rw [ByteArray.toList_eq]
  have h : m.data.toList.length = m.size := by rw [Array.length_toList]; rfl
  cases hl : m.data.toList with
  | nil => rw [hl] at h; have : m.size = 0 := by simpa using h.symm
           rw [this]; rfl
  | cons a l => rw [hl] at h; have : m.size ≠ 0 := by simp at h; omega
                rw [beq_eq_false_iff_ne.mpr this]; rfl
theorem or_r32 (a b : Int) (ha : R32 a) (hb : R32 b) : R32 (bits .or .u32 a b) ∧ (bits .or .u32 a b = 0 ↔ a = 0 ∧ b = 0) := by
  obtain ⟨a, rfl⟩ := Int.eq_ofNat_of_zero_le ha.1
  obtain ⟨b, rfl⟩ := Int.eq_ofNat_of_zero_le hb.1
  have ha2 := ha.2
  have hb2 := hb.2
  have e : bits .or .u32 (a : Int) (b : Int) = ((a ||| b : Nat) : Int) := by
    show IntKind.u32.wrap ((BitVec.ofInt 32 (a : Int) ||| BitVec.ofInt 32 (b : Int)).toNat : Int) = _
    rw [BitVec.toNat_or, ofInt_u32 a (by omega), ofInt_u32 b (by omega), IntKind.wrap_u32]
    have : a ||| b < 2 ^ 32 := Nat.or_lt_two_pow (by omega) (by omega)
    omega
  have hlt : a ||| b < 2 ^ 32 := Nat.or_lt_two_pow (by omega) (by omega)
  rw [e]
  refine ⟨⟨by omega, by omega⟩, ?_⟩
  have h0 : (a ||| b = 0) ↔ a = 0 ∧ b = 0 := Nat.or_eq_zero_iff
  constructor
  · intro h
    have := h0.1 (by omega)
    omega
  · intro h
    have := h0.2 (by omega)
    omega
theorem or3 (s u g : Int) (hs : R32 s) (hu : R32 u) (hg : R32 g) : (bits .or .u32 (bits .or .u32 s u) g != 0) = (!(s == 0) || !(u == 0) || !(g == 0)) := by
  have h1 := or_r32 s u hs hu
  have h2 := or_r32 _ g h1.1 hg
  by_cases h : bits .or .u32 (bits .or .u32 s u) g = 0
  · have h3 := h2.2.1 h
    have h4 := h1.2.1 h3.1
    rw [h, h4.1, h4.2, h3.2]; rfl
  · have h3 : ¬ (s = 0 ∧ u = 0 ∧ g = 0) := fun k => h (h2.2.2 ⟨h1.2.2 ⟨k.1, k.2.1⟩, k.2.2⟩)
    rw [show (bits .or .u32 (bits .or .u32 s u) g != 0) = true from bne_iff_ne.mpr h]
    by_cases hs : s = 0
    · by_cases hu : u = 0
      · have hg : g ≠ 0 := fun e => h3 ⟨hs, hu, e⟩
        rw [beq_eq_false_iff_ne.mpr hg]; simp
      · rw [beq_eq_false_iff_ne.mpr hu]; simp
    · rw [beq_eq_false_iff_ne.mpr hs]; simp
def calls_Put.f (x p v o f : Int) (m : ByteArray) (s u g : Int) (gs body : List Int) : Option (List Int × Int) :=
  if (R32 s ∧ R32 u ∧ R32 g ∧ 0 ≤ f) ∧ m.size ≤ 140737488351232 ∧ gs.length ≤ 140737488351232 ∧ body.length ≤ 140737488351232 then
    some (if 1 < f ∨ (f = 0 ∧ toldB m s u g gs = true) then ([], 1) else if f = 1 ∧ (255 < m.size ∨ 16 < gs.length) then ([], 1)
      else if 65536 < (callB x p v o f m s u g gs ++ body).length then ([], 3) else (callB x p v o f m s u g gs ++ body, 0)) else none
theorem five_rows (w : World) (A0 : Option Addr) (c0 : Nat) (x0 : List Int) (A1 : Option Addr) (c1 : Nat) (x1 : List Int) (A2 : Option Addr) (c2 : Nat) (x2 : List Int) (A3 : Option Addr) (c3 : Nat) (x3 : List Int) (A4 : Option Addr) (c4 : Nat) (x4 : List Int) (h0 : RB w A0 x0) (k0 : x0.length ≤ c0) (h1 : RB w A1 x1) (k1 : x1.length ≤ c1) (h2 : RB w A2 x2) (k2 : x2.length ≤ c2) (h3 : RB w A3 x3) (k3 : x3.length ≤ c3) (h4 : RB w A4 x4) (k4 : x4.length ≤ c4) :
    RBs (w.alloc (.cells #[.slice A0 x0.length c0, .slice A1 x1.length c1, .slice A2 x2.length c2, .slice A3 x3.length c3, .slice A4 x4.length c4] 26)) (some ⟨w.heap.size, 0, none⟩) [x0, x1, x2, x3, x4] := by
  refine ⟨rfl, by simp, fun _ => ⟨_, rfl, fun j p hj => ?_⟩⟩
  have hb : ∀ i, (w.alloc (.cells #[.slice A0 x0.length c0, .slice A1 x1.length c1, .slice A2 x2.length c2, .slice A3 x3.length c3, .slice A4 x4.length c4] 26)).cell? ⟨w.heap.size, i, none⟩ = (#[Value.slice A0 x0.length c0, .slice A1 x1.length c1, .slice A2 x2.length c2, .slice A3 x3.length c3, .slice A4 x4.length c4] : Array Value)[i]? := fun i => blk_cell (heap_alloc_new w _) i
  match j, hj with
  | 0, hj =>
    obtain rfl : x0 = p := by simpa using hj
    refine ⟨[.slice A0 x0.length c0], rfl, ⟨A0, c0, rfl, k0, Kd.C_alloc h0 _⟩, fun i u hu => ?_⟩
    match i, hu with
    | 0, hu => rw [show 0 * (Kd.slice 5 (Kd.int .u8)).sz + 0 = 0 from rfl, add_plain, hb]; simpa using hu
  | 1, hj =>
    obtain rfl : x1 = p := by simpa using hj
    refine ⟨[.slice A1 x1.length c1], rfl, ⟨A1, c1, rfl, k1, Kd.C_alloc h1 _⟩, fun i u hu => ?_⟩
    match i, hu with
    | 0, hu => rw [show 1 * (Kd.slice 5 (Kd.int .u8)).sz + 0 = 1 from rfl, add_plain, hb]; simpa using hu
  | 2, hj =>
    obtain rfl : x2 = p := by simpa using hj
    refine ⟨[.slice A2 x2.length c2], rfl, ⟨A2, c2, rfl, k2, Kd.C_alloc h2 _⟩, fun i u hu => ?_⟩
    match i, hu with
    | 0, hu => rw [show 2 * (Kd.slice 5 (Kd.int .u8)).sz + 0 = 2 from rfl, add_plain, hb]; simpa using hu
  | 3, hj =>
    obtain rfl : x3 = p := by simpa using hj
    refine ⟨[.slice A3 x3.length c3], rfl, ⟨A3, c3, rfl, k3, Kd.C_alloc h3 _⟩, fun i u hu => ?_⟩
    match i, hu with
    | 0, hu => rw [show 3 * (Kd.slice 5 (Kd.int .u8)).sz + 0 = 3 from rfl, add_plain, hb]; simpa using hu
  | 4, hj =>
    obtain rfl : x4 = p := by simpa using hj
    refine ⟨[.slice A4 x4.length c4], rfl, ⟨A4, c4, rfl, k4, Kd.C_alloc h4 _⟩, fun i u hu => ?_⟩
    match i, hu with
    | 0, hu => rw [show 4 * (Kd.slice 5 (Kd.int .u8)).sz + 0 = 4 from rfl, add_plain, hb]; simpa using hu

/-- What is carried through calls.Put. -/
structure PS (w0 w : World) (x p v o f : Int) (m : ByteArray) (s u g : Int) (Ag : Option Addr) (cg : Nat) (gs : List Int) (Ab : Option Addr) (cb : Nat) (body : List Int) (Aw : Option Addr) (wl : List Int) : Prop where
  b : Below w0.heap.size w0 w
  blk : Call11 w w0.heap.size x p v o f m s u g (.slice Ag gs.length cg) (.slice Ab body.length cb)
  body : RB w Ab body
  who : RB w Aw wl
section
variable {w0 w w1 : World} {x p v o f : Int} {m : ByteArray} {s u g : Int} {Ag : Option Addr} {cg : Nat} {gs : List Int} {Ab : Option Addr} {cb : Nat} {body : List Int} {Aw : Option Addr} {wl : List Int}
theorem PS.step (h : PS w0 w x p v o f m s u g Ag cg gs Ab cb body Aw wl) (hb : Below w.heap.size w w1) : PS w0 w1 x p v o f m s u g Ag cg gs Ab cb body Aw wl :=
  ⟨below_then h.b h.b.size hb, h.blk.below hb, Kd.C_below h.body hb, Kd.C_below h.who hb⟩
end
theorem opaque_Put_nil (w : World) : Calls Tryd.prog 23 #[.slice none 0 0] w fun e w' => ∃ v0_ : Value, e = .returned (v0_) ∧ Kd.R (Kd.int .u8) 5 w' w.heap.size (fun _ => True) v0_ (putL []) ∧ Below w.heap.size w w' :=
  opaque_Put.calls none 0 [] (putL []) w (Kd.C_nil _ _) (Nat.le_refl _) (put_f [] (by simp))

set_option maxHeartbeats 8000000 in
set_option maxRecDepth 100000 in
theorem calls_Put.calls (x p v o f : Int) (m : ByteArray) (s u g : Int) (Ag : Option Addr) (cg : Nat) (gs : List Int) (Ab : Option Addr) (cb : Nat) (body : List Int) (r1 : List Int) (r2 : Int) (w : World) (hrg : Kd.C (Kd.int .u32) w Ag gs.length gs) (hcg : gs.length ≤ cg) (hrb : Kd.C (Kd.int .u8) w Ab body.length body) (hcb : body.length ≤ cb) (h : calls_Put.f x p v o f m s u g gs body = some (r1, r2)) :
    Calls Tryd.prog 7 #[.agg #[.int .u32 x, .int .u32 p, .int .u32 v, .int .u32 o, .int .u32 f, .string m, .int .u32 s, .int .u32 u, .int .u32 g, .slice Ag gs.length cg, .slice Ab body.length cb]] w fun e w' => ∃ v0_ : Value, e = .returned (.tuple #[v0_, .int .i64 r2]) ∧ Kd.R (Kd.int .u8) 5 w' w.heap.size (fun _ => True) v0_ r1 ∧ Below w.heap.size w w' := by
  unfold calls_Put.f at h
  by_cases hgd : (R32 s ∧ R32 u ∧ R32 g ∧ 0 ≤ f) ∧ m.size ≤ 140737488351232 ∧ gs.length ≤ 140737488351232 ∧ body.length ≤ 140737488351232
  · rw [if_pos hgd] at h
    obtain ⟨⟨hs, hu, hg, hf0⟩, hm, hgl, hbl⟩ := hgd
    have HRES := Aside0.mk (Option.some.inj h)
    obtain ⟨T, hT⟩ : ∃ T, toldB m s u g gs = T := ⟨_, rfl⟩
    obtain ⟨b1, hb1⟩ : ∃ b, m.toList.isEmpty = b := ⟨_, rfl⟩
    obtain ⟨b2, hb2⟩ : ∃ b, (bits .or .u32 (bits .or .u32 s u) g != 0) = b := ⟨_, rfl⟩
    have HT : Aside0 (T = (!b1 || b2 || decide (0 < gs.length))) := ⟨by
      rw [← hT, ← hb1, ← hb2, toldE, or3 s u g hs hu hg]
      unfold toldB
      have : (!(gs.length == 0)) = decide (0 < gs.length) := by
        cases hl : gs.length with
        | zero => rfl
        | succ n => simp
      rw [this]
      cases (m.size == 0) <;> cases (s == 0) <;> cases (u == 0) <;> cases (g == 0) <;> rfl⟩
    rw [hT] at HRES
    obtain ⟨wb, hwb⟩ : ∃ wb, w.alloc (.cells #[.int .u32 x, .int .u32 p, .int .u32 v, .int .u32 o, .int .u32 f, .string m, .int .u32 s, .int .u32 u, .int .u32 g, .slice Ag gs.length cg, .slice Ab body.length cb] 28) = wb := ⟨_, rfl⟩
    have hb0 : Below w.heap.size w wb := hwb ▸ below_alloc (Below.refl w.heap.size w) _
    have HS := Aside0.mk (show PS w wb x p v o f m s u g Ag cg gs Ab cb body none [] from ⟨hb0, hwb ▸ call11_new w _ _ _ _ _ _ _ _ _ _ _, Kd.C_below hrb hb0, Kd.C_nil _ _⟩)
    have HG := Aside0.mk (Kd.C_below hrg hb0)
    have HCG := Aside0.mk hcg
    have HCB := Aside0.mk hcb
    have HW := Aside0.mk hwb
    have z0 := HS.out.blk.c0
    have z1 := HS.out.blk.c1
    have z2 := HS.out.blk.c2
    have z3 := HS.out.blk.c3
    have z4 := HS.out.blk.c4
    have z5 := HS.out.blk.c5
    have z6 := HS.out.blk.c6
    have z7 := HS.out.blk.c7
    have z8 := HS.out.blk.c8
    have z9 := HS.out.blk.c9
    clear h hrg hrb hcg hcb hwb hb0 hT hu hs hg
    rw [← HW.out] at z0 z1 z2 z3 z4 z5 z6 z7 z8 z9
    go_enter Tryd.func7, Tryd.ntmps7
    go_upto_region 2 with (fail)
    go_cut [5] (fun v5 wc => v5 = .bool T ∧ wb = wc)
    case first =>
      cases b1
      all_goals
        cases b2
        all_goals
          go_wp2
          go_meet
          case rel => exact ⟨by rw [HT.out]; rfl, HW.out.symm⟩
    case rest =>
      obtain ⟨rfl, rfl⟩ := hcut
      have y4 := HS.out.blk.c4
      by_cases hret : 1 < f ∨ (f = 0 ∧ T = true)
      · have hR := HRES.out
        rw [if_pos hret] at hR
        obtain ⟨rfl, rfl⟩ : [] = r1 ∧ 1 = r2 := by simpa using hR
        rcases hret with h1 | ⟨rfl, rfl⟩
        · have c1 : decide (1 < f) = true := decide_eq_true h1
          clear hR h1 HRES
          go_wp2
          go_ret2
          exact ⟨_, rfl, Kd.R_nil _ _ _ _ _, HS.out.b⟩
        · clear hR HRES
          go_wp2
          go_ret2
          exact ⟨_, rfl, Kd.R_nil _ _ _ _ _, HS.out.b⟩
      · have HRES2 := Aside0.mk (show (if f = 1 ∧ (255 < m.size ∨ 16 < gs.length) then (([] : List Int), (1 : Int)) else if 65536 < (callB x p v o f m s u g gs ++ body).length then ([], 3) else (callB x p v o f m s u g gs ++ body, 0)) = (r1, r2) by have := HRES.out; rwa [if_neg hret] at this)
        have hf01 : f = 0 ∨ f = 1 := by omega
        obtain ⟨wl, hwl⟩ : ∃ wl, whoL f m s u g gs = wl := ⟨_, rfl⟩
        have HWL := Aside0.mk hwl
        have HTF : Aside0 (f = 0 → T = false) := ⟨fun h0 => by
          cases hT1 : T with
          | false => rfl
          | true => exact absurd (Or.inr ⟨h0, hT1⟩) hret⟩
        clear HRES hret hwl
        go_upto_region 3 with (fail)
        go_cut [44] (fun v44 wc => v44 = .bool false ∧ wb = wc)
        case first =>
          rcases hf01 with rfl | rfl
          · have hTF := HTF.out rfl
            subst hTF
            go_wp2
            go_meet
            case rel => exact ⟨rfl, rfl⟩
          · go_wp2
            go_meet
            case rel => exact ⟨rfl, rfl⟩
        case rest =>
        obtain ⟨rfl, rfl⟩ := hcut
        go_upto_if 47 with (fail)
        go_cut [4] (fun v4 wc => ∃ (Aw : Option Addr) (cw : Nat), v4 = .slice Aw wl.length cw ∧ wl.length ≤ cw ∧ Aside0 (¬ (f = 1 ∧ (255 < m.size ∨ 16 < gs.length))) ∧ Aside0 (PS w wc x p v o f m s u g Ag cg gs Ab cb body Aw wl))
        case first =>
          rcases hf01 with rfl | rfl
          · have hwn : wl = [] := by rw [← HWL.out]; rfl
            subst hwn
            go_wp2
            go_meet
            case rel => exact ⟨none, 0, rfl, Nat.le_refl _, ⟨fun h => absurd h.1 (by decide)⟩, HS⟩
          · have y5 := HS.out.blk.c5
            have y6 := HS.out.blk.c6
            have y7 := HS.out.blk.c7
            have y8 := HS.out.blk.c8
            have y9 := HS.out.blk.c9
            by_cases hbad : 255 < m.size ∨ 16 < gs.length
            · have hR := HRES2.out
              rw [if_pos ⟨rfl, hbad⟩] at hR
              obtain ⟨rfl, rfl⟩ : [] = r1 ∧ 1 = r2 := by simpa using hR
              have HC := Aside0.mk (cPut_no 100 s m u g gs hbad)
              clear hR hbad HRES2
              go_wp2_with fail
              refine (creds_Put.calls 101 s m u g Ag cg gs [] 1 _ HG.out HCG.out HC.out).mono ?_
              rintro e w1 ⟨v1, rfl, ho1, hb1⟩
              go_wp2
              go_ret2
              exact ⟨_, rfl, Kd.R_nil _ _ _ _ _, below_then HS.out.b HS.out.b.size hb1⟩
            · have HC := Aside0.mk (cPut_ok 100 s m u g gs (by omega) (by omega) (by omega))
              have HNB := Aside0.mk (show ¬ ((1 : Int) = 1 ∧ (255 < m.size ∨ 16 < gs.length)) from fun h => hbad h.2)
              have hwe : wl = credB s m u g gs := by rw [← HWL.out]; unfold whoL; rw [if_pos rfl]
              rw [← hwe] at HC
              clear hbad hwe
              go_wp2_with fail
              refine (creds_Put.calls 101 s m u g Ag cg gs wl 0 _ HG.out HCG.out HC.out).mono ?_
              rintro e w1 ⟨v1, rfl, ho1, hb1⟩
              obtain ⟨A1, c1, rfl, hc1, hR1⟩ := OB_reads ho1
              have HP1 := Aside0.mk (show PS w w1 x p v o 1 m s u g Ag cg gs Ab cb body A1 wl from ⟨below_then HS.out.b HS.out.b.size hb1, HS.out.blk.below hb1, Kd.C_below HS.out.body hb1, hR1⟩)
              have HC1 := Aside0.mk hc1
              clear ho1 hb1 hR1 hc1
              go_wp2
              go_meet
              case rel => exact ⟨A1, c1, rfl, HC1.out, HNB, HP1⟩
        case rest =>
          obtain ⟨Aw, cw, rfl, hcw, HNB, HPS⟩ := hcut
          have hR := HRES2.out
          rw [if_neg HNB.out] at hR
          have HRES3 := Aside0.mk hR
          have HCW := Aside0.mk hcw
          have HWM := Aside0.mk (show wl.length ≤ 400 from HWL.out ▸ whoL_most (fun h1 => by
            have h2 : ¬ (255 < m.size ∨ 16 < gs.length) := fun h3 => HNB.out ⟨h1, h3⟩
            omega))
          have HWF := Aside0.mk (put_f wl (by have := HWM.out; omega))
          have y0 := HPS.out.blk.c0
          have y1 := HPS.out.blk.c1
          have y2 := HPS.out.blk.c2
          have y3 := HPS.out.blk.c3
          have y4' := HPS.out.blk.c4
          clear hR HRES2 hcw y4 HS HG hf01
          obtain ⟨ns, hns⟩ : ∃ ns : List Int, ns = [x, 0, 2, p, v, o, f] := ⟨_, rfl⟩
          have HNS := Aside0.mk hns
          clear hns
          go_wp2_with fail
          obtain ⟨wl0, hwl0⟩ : ∃ w1, wc = w1 := ⟨_, rfl⟩
          rw [hwl0] at HPS ⊢
          clear hwl0 y0 y1 y2 y3 y4'
          go_loopw [8, 72] (fun v8 v72 wr => ∃ k : Nat, k ≤ 7 ∧ v72 = .int .i64 k ∧ OB wr wl0.heap.size v8 (numsL (ns.take k)) ∧ Aside0 (Below wl0.heap.size wl0 wr)) (fun _ v72 _ => 7 - (intOf v72).toNat)
          case atStart => exact ⟨0, by omega, rfl, by rw [List.take_zero]; exact Kd.R_nil _ _ _ _ _, ⟨Below.refl _ _⟩⟩
          case round =>
            obtain ⟨k, hk, rfl, ho, HB⟩ := hrel
            obtain ⟨A8, c8, rfl, hc8, hR8⟩ := OB_reads ho
            obtain ⟨yb, hyb⟩ : ∃ yb, numsL (ns.take k) = yb := ⟨_, rfl⟩
            have hlb : yb.length = 4 * k := by rw [← hyb, numsL_length, List.length_take, HNS.out]; simp; omega
            rw [hyb] at ho hR8 hc8
            simp only [hyb]
            have HO := Aside0.mk ho
            have HR8 := Aside0.mk hR8
            have HC8 := Aside0.mk hc8
            have HYB := Aside0.mk hyb
            have HLB := Aside0.mk hlb
            clear ho hR8 hc8 hyb hlb
            by_cases hlt : k < 7
            · obtain ⟨n, hn, hix⟩ : ∃ n, ns.take (k + 1) = ns.take k ++ [n] ∧ ∀ W, (Instr.index 54 (.agg #[.int .u32 x, .int .u32 0, .int .u32 2, .int .u32 p, .int .u32 v, .int .u32 o, .int .u32 f]) (.int .i64 (k : Int))).run Tryd.prog W = .ok (.int .u32 n) W := by
                rw [HNS.out]
                have : k = 0 ∨ k = 1 ∨ k = 2 ∨ k = 3 ∨ k = 4 ∨ k = 5 ∨ k = 6 := by omega
                rcases this with rfl | rfl | rfl | rfl | rfl | rfl | rfl
                all_goals exact ⟨_, rfl, fun _ => by kernel_rfl⟩
              have HE := Aside0.mk (show numsL (ns.take (k + 1)) = yb ++ beL n 4 by rw [hn, numsL_append, HYB.out]; exact congrArg _ (List.append_nil _))
              have HTL := Aside0.mk (show (yb.length + (beL n 4).length) * 1 ≤ 140737488355328 by rw [HLB.out, beL_length]; omega)
              obtain ⟨z, hz⟩ : ∃ z, beL n 4 = z := ⟨_, rfl⟩
              have HWP := Aside0.mk (show words_Put.f n = some z from congrArg some hz)
              rw [hz] at HE HTL
              clear hn hz
              go_wp2_with (first | (go_at_call 21; refine (words_Put.calls n z _ HWP.out).mono ?_; rintro e w1 ⟨v1, rfl, ho1, hb1⟩; obtain ⟨A1, c1, rfl, hc1, hR1⟩ := OB_reads ho1; have HO1 := Aside0.mk (Kd.R_mono (Kd.R_elder' HO.out (Kd.R_base ho1) hb1) (ok' := fun _ => True) (fun _ _ => trivial)); have HB1 := Aside0.mk (below_then HB.out HB.out.size hb1); have HZ1 := Aside0.mk hR1; clear ho1 hb1 hc1 hR1) | (at_builtin; refine Kd.R_append_row (Value.int .u8) (0 : Int) (h1 := fun _ => rfl) (w0 := wl0) wl0.heap.size rfl _ _ 26 5 (.int .u8 0) 1 rfl Tryd.underlying26 infoB rfl (by decide) _ yb z A1 _ c1 (fun _ => True) rfl rfl (fun _ _ => trivial) HO1.out HZ1.out HB1.out HB1.out.size HTL.out ?_; intro v2 w2 ho2 hb2 hg2 hat2; rw [← HE.out] at ho2; have HO2 := Aside0.mk ho2; have HB2 := Aside0.mk hb2; clear ho2 hb2 hg2 hat2))
              go_roundw
              case rel => exact ⟨k + 1, by omega, by go_num, HO2.out, HB2⟩
              case measure => simp [intOf]; omega
            · obtain rfl : k = 7 := by omega
              have HPR := Aside0.mk (HPS.out.step HB.out)
              have HYE := Aside0.mk (show yb = numsL [x, 0, 2, p, v, o, f] by rw [← HYB.out, HNS.out]; rfl)
              have y10 := HPR.out.blk.c10
              clear HPS HO HB
              have HLL := Aside0.mk (show ([yb, putL wl, beL 0 4, putL [], body].flatten) = callB x p v o f m s u g gs ++ body by
                rw [callB_app, HWL.out, ← HYE.out]; simp only [List.flatten_cons, List.flatten_nil, List.append_nil, List.append_assoc])
              obtain ⟨q1, hq1⟩ : ∃ q, putL wl = q := ⟨_, rfl⟩
              obtain ⟨q2, hq2⟩ : ∃ q, beL 0 4 = q := ⟨_, rfl⟩
              obtain ⟨q3, hq3⟩ : ∃ q, putL [] = q := ⟨_, rfl⟩
              have HF1 : Aside0 (opaque_Put.f wl = some q1) := ⟨hq1 ▸ HWF.out⟩
              have HF2 : Aside0 (words_Put.f 0 = some q2) := ⟨congrArg some hq2⟩
              have HF3 : Aside0 (∀ W, Calls Tryd.prog 23 #[.slice none 0 0] W fun e w' => ∃ v0_ : Value, e = .returned (v0_) ∧ Kd.R (Kd.int .u8) 5 w' W.heap.size (fun _ => True) v0_ q3 ∧ Below W.heap.size W w') := ⟨hq3 ▸ opaque_Put_nil⟩
              have HLQ := Aside0.mk (show q1.length ≤ 500 ∧ q2.length = 4 ∧ q3.length = 4 by
                have h1 := putL_length wl
                have h2 := padI_range wl.length
                have h3 := HWM.out
                rw [← hq1, ← hq2, ← hq3]
                exact ⟨by omega, beL_length 0 4, rfl⟩)
              rw [hq1, hq2, hq3] at HLL
              have HB0 := Aside0.mk (show RB wr A8 yb from HR8.out)
              have HPS : Aside0 (PS w wr.drew x p v o f m s u g Ag cg gs Ab cb body Aw wl) := ⟨⟨below_drew1 HPR.out.b, HPR.out.blk, HPR.out.body, HPR.out.who⟩⟩
              have HB8 : Aside0 (RB wr.drew A8 yb) := ⟨HB0.out⟩
              have HG1 : Aside0 True := ⟨trivial⟩
              have HG2 : Aside0 True := ⟨trivial⟩
              have HG3 : Aside0 True := ⟨trivial⟩
              have HLEN := Aside0.mk (show [yb, q1, q2, q3, body].flatten.length ≤ 140737488355328 by
                have h1 := HLQ.out; have h2 := HLB.out
                simp only [List.flatten_cons, List.flatten_nil, List.append_nil, List.length_append]; omega)
              clear hq1 hq2 hq3 HPR HR8 HB0 HWF HYE HYB
              go_wp2_with fail
              go_region_held3 (fun w' => w'.cell? ⟨w.heap.size, 10, none⟩ = some (.slice Ab body.length cb)) (first | exact HPS.out.blk.c10 | go_keep)
                (first | (go_at_call 23; (with_reducible refine (opaque_Put.calls Aw cw wl q1 _ HPS.out.who HCW.out HF1.out).mono ?_); rintro e w1 ⟨v1, rfl, ho1, hb⟩; obtain ⟨A1, c1, rfl, hc1, hR1⟩ := OB_reads ho1; have HG1' := Aside0.mk hR1; have HC1 := Aside0.mk hc1; have HP' := Aside0.mk (HPS.out.step hb); have HB' := Aside0.mk (Kd.C_below HB8.out hb); clear hb ho1 hc1 hR1 HPS HB8 HG1; have HPS := HP'; have HB8 := HB'; have HG1 := HG1'; clear HP' HB' HG1') | (go_at_call 21; (with_reducible refine (words_Put.calls 0 q2 _ HF2.out).mono ?_); rintro e w1 ⟨v2, rfl, ho2, hb⟩; obtain ⟨A2, c2, rfl, hc2, hR2⟩ := OB_reads ho2; have HG2' := Aside0.mk hR2; have HC2 := Aside0.mk hc2; have HP' := Aside0.mk (HPS.out.step hb); have HB' := Aside0.mk (Kd.C_below HB8.out hb); have HG1' := Aside0.mk (Kd.C_below HG1.out hb); clear hb ho2 hc2 hR2 HPS HB8 HG1 HG2; have HPS := HP'; have HB8 := HB'; have HG1 := HG1'; have HG2 := HG2'; clear HP' HB' HG1' HG2') | (go_at_call 23; (with_reducible refine (HF3.out _).mono ?_); rintro e w1 ⟨v3, rfl, ho3, hb⟩; obtain ⟨A3, c3, rfl, hc3, hR3⟩ := OB_reads ho3; have HG3' := Aside0.mk hR3; have HC3 := Aside0.mk hc3; have HP' := Aside0.mk (HPS.out.step hb); have HB' := Aside0.mk (Kd.C_below HB8.out hb); have HG1' := Aside0.mk (Kd.C_below HG1.out hb); have HG2' := Aside0.mk (Kd.C_below HG2.out hb); clear hb ho3 hc3 hR3 HPS HB8 HG1 HG2 HG3; have HPS := HP'; have HB8 := HB'; have HG1 := HG1'; have HG2 := HG2'; have HG3 := HG3'; clear HP' HB' HG1' HG2' HG3') | (go_at_call 22; have hfr := five_rows _ A8 c8 yb A1 c1 q1 A2 c2 q2 A3 c3 q3 Ab cb body HB8.out HC8.out HG1.out HC1.out HG2.out HC2.out HG3.out HC3.out HPS.out.body HCB.out; have HPA := Aside0.mk (HPS.out.step (below_alloc (Below.refl _ _) (.cells #[.slice A8 yb.length c8, .slice A1 q1.length c1, .slice A2 q2.length c2, .slice A3 q3.length c3, .slice Ab body.length cb] 26))); refine (concat_calls _ 5 [yb, q1, q2, q3, body] _ hfr (Nat.le_of_ble_eq_true rfl) HLEN.out).mono ?_; rintro e w1 ⟨v5, rfl, ho5, hb5⟩; obtain ⟨A5, c5, rfl⟩ := Kd.R_slice ho5; have HO5 := Aside0.mk (Kd.R_lower ho5 HPA.out.b.size); have HP' := Aside0.mk (HPA.out.step hb5); clear hfr ho5 hb5 HPA HPS HB8 HG1 HG2 HG3; have HPS := HP'; clear HP'))
              obtain ⟨yr, hyr⟩ : ∃ y, [yb, q1, q2, q3, body].flatten = y := ⟨_, rfl⟩
              rw [hyr] at HO5 HLL
              have hyrl : yb.length + (q1.length + (q2.length + (q3.length + body.length))) = yr.length := by rw [← hyr]; simp
              rw [hyrl]
              clear hyrl
              have HRES4 := Aside0.mk (show (if 65536 < yr.length then (([] : List Int), (3 : Int)) else (yr, 0)) = (r1, r2) by have := HRES3.out; rwa [← HLL.out] at this)
              clear HRES3 hyr
              by_cases hbig : 65536 < yr.length
              · have hR := HRES4.out
                rw [if_pos hbig] at hR
                obtain ⟨rfl, rfl⟩ : [] = r1 ∧ 3 = r2 := by simpa using hR
                have cbg : decide ((65536 : Int) < (yr.length : Int)) = true := decide_eq_true (by omega)
                clear hR hbig HRES4
                go_wp2
                go_ret2
                exact ⟨_, rfl, Kd.R_nil _ _ _ _ _, HPS.out.b⟩
              · have hR := HRES4.out
                rw [if_neg hbig] at hR
                obtain ⟨rfl, rfl⟩ : yr = r1 ∧ 0 = r2 := by simpa using hR
                have cbg : decide ((65536 : Int) < (yr.length : Int)) = false := decide_eq_false (by omega)
                clear hR hbig HRES4
                go_wp2
                go_ret2
                exact ⟨_, rfl, HO5.out, HPS.out.b⟩
  · rw [if_neg hgd] at h; cases h
/-- A call's block. -/
def Blk11 (w : World) (C : Nat) (a : Array Value) : Prop := w.heap[C]? = some (.cells a 28 (0, 0))
theorem Blk11.cell {w : World} {C : Nat} {a : Array Value} (h : Blk11 w C a) (i : Nat) : w.cell? ⟨C, i, none⟩ = a[i]? := by simp [World.cell?, show w.heap[C]? = _ from h]
theorem Blk11.fz {w : World} {C : Nat} {a : Array Value} (h : Blk11 w C a) (i : Nat) : w.frozen? ⟨C, i, none⟩ = false := by simp [World.frozen?, show w.heap[C]? = _ from h]
theorem Blk11.set {w : World} {C : Nat} {a : Array Value} (h : Blk11 w C a) (i : Nat) (x : Value) : Blk11 (w.setCell ⟨C, i, none⟩ x) C (a.setIfInBounds i x) := by
  obtain ⟨hlt, hk⟩ := Array.getElem?_eq_some_iff.1 h
  show (w.heap.modify C _)[C]? = _
  rw [Array.getElem?_eq_getElem (by rw [Array.size_modify]; exact hlt), Array.getElem_modify_self, hk]
  rfl
theorem setCells_heap (b : Nat) : ∀ (vs : List Value) (o : Nat) (W : World) (k : Nat), k ≠ b → (W.setCells b o vs).heap[k]? = W.heap[k]?
  | [], _, _, _, _ => rfl
  | v :: vs, o, W, k, h => by
    show ((W.setCell ⟨b, o, none⟩ v).setCells b (o + 1) vs).heap[k]? = _
    rw [setCells_heap b vs (o + 1) _ k h]
    exact Below.heap_setCell _ _ _ _ (by simpa using h)
theorem below_setCells {base : Nat} {w0 : World} (b : Nat) (hb : base ≤ b) : ∀ (vs : List Value) (o : Nat) (W : World), Below base w0 W → Below base w0 (W.setCells b o vs)
  | [], _, _, h => h
  | v :: vs, o, W, h => below_setCells b hb vs (o + 1) _ (h.setCell (p := ⟨b, o, none⟩) hb _)
theorem R_moved {α : Type} {d : Kd α} {e : TypeId} {W w1 : World} {base base' : Nat} {v : Value} {xs : List α} (h : d.R e W base (fun _ => True) v xs) (hk : ∀ k, base ≤ k → k < W.heap.size → w1.heap[k]? = W.heap[k]?) (hb : base' ≤ base) : d.R e w1 base' (fun _ => True) v xs :=
  Kd.R_lower (Kd.R_mono (Kd.R_step (Kd.R_bound h) (fun k hk' hlt => hk k hk'.2.1 hlt)) (fun _ _ => trivial)) hb
/-- Many cells of an array, one behind the other. -/
def setsA (a : Array Value) (o : Nat) : List Value → Array Value
  | [] => a
  | v :: vs => setsA (a.setIfInBounds o v) (o + 1) vs
theorem Blk11.sets {C : Nat} : ∀ (vs : List Value) (o : Nat) (a : Array Value) (W : World), Blk11 W C a → Blk11 (W.setCells C o vs) C (setsA a o vs)
  | [], _, _, _, h => h
  | v :: vs, o, _, _, h => Blk11.sets vs (o + 1) _ _ (h.set o v)
theorem sets11 (a0 a1 a2 a3 a4 a5 a6 a7 a8 a9 a10 b0 b1 b2 b3 b4 b5 b6 b7 b8 b9 b10 : Value) : setsA #[a0, a1, a2, a3, a4, a5, a6, a7, a8, a9, a10] 0 [b0, b1, b2, b3, b4, b5, b6, b7, b8, b9, b10] = #[b0, b1, b2, b3, b4, b5, b6, b7, b8, b9, b10] := by
  simp [setsA]
theorem CallOk.small {x p v o f : Int} {m : ByteArray} {s u g : Int} {gs : List Int} (h : CallOk x p v o f m s u g gs) : m.size ≤ 255 ∧ gs.length ≤ 16 := by
  rcases h.hf with hf | hf
  · obtain ⟨rfl, _, _, _, rfl⟩ := h.f0 hf
    exact ⟨by show (0 : Nat) ≤ 255; omega, by simp⟩
  · exact h.f1 hf
theorem CallOk.untold {x p v o f : Int} {m : ByteArray} {s u g : Int} {gs : List Int} (h : CallOk x p v o f m s u g gs) : ¬ (1 < f ∨ (f = 0 ∧ toldB m s u g gs = true)) := by
  rintro (h1 | ⟨h1, h2⟩)
  · rcases h.hf with hf | hf <;> omega
  · obtain ⟨rfl, rfl, rfl, rfl, rfl⟩ := h.f0 h1
    exact absurd h2 (by decide)
/-- A call whose parts may be is put, if it isn't too long. -/
theorem cput_ok {x p v o f : Int} {m : ByteArray} {s u g : Int} {gs : List Int} (h : CallOk x p v o f m s u g gs) (b : List Int) (hb : (callB x p v o f m s u g gs ++ b).length ≤ 65536) :
    calls_Put.f x p v o f m s u g gs b = some (callB x p v o f m s u g gs ++ b, 0) := by
  obtain ⟨h1, h2⟩ := h.small
  have h3 : b.length ≤ 65536 := by rw [List.length_append] at hb; omega
  unfold calls_Put.f
  rw [if_pos ⟨⟨h.hs, h.hu, h.hg, by rcases h.hf with hf | hf <;> omega⟩, by omega, by omega, by omega⟩, if_neg h.untold, if_neg (by rintro ⟨_, h4 | h4⟩ <;> omega), if_neg (by omega)]
/-- Whatever is put: a call that may be, or a refusal. -/
theorem cput_cases {x p v o f : Int} {m : ByteArray} {s u g : Int} {gs b : List Int} (hx : R32 x) (hp : R32 p) (hv : R32 v) (ho : R32 o) (hf : R32 f) (hs : R32 s) (hu : R32 u) (hg : R32 g) (hgs : ∀ n ∈ gs, R32 n)
    (hm : m.size ≤ 140737488351232) (hl : gs.length ≤ 140737488351232) (hb : b.length ≤ 140737488351232) :
    (calls_Put.f x p v o f m s u g gs b = some ([], 1) ∧ ¬ CallOk x p v o f m s u g gs) ∨ (calls_Put.f x p v o f m s u g gs b = some ([], 3) ∧ CallOk x p v o f m s u g gs ∧ 65536 < (callB x p v o f m s u g gs ++ b).length) ∨
    (calls_Put.f x p v o f m s u g gs b = some (callB x p v o f m s u g gs ++ b, 0) ∧ CallOk x p v o f m s u g gs ∧ (callB x p v o f m s u g gs ++ b).length ≤ 65536) := by
  have hgd : (R32 s ∧ R32 u ∧ R32 g ∧ 0 ≤ f) ∧ m.size ≤ 140737488351232 ∧ gs.length ≤ 140737488351232 ∧ b.length ≤ 140737488351232 := ⟨⟨hs, hu, hg, hf.1⟩, hm, hl, hb⟩
  by_cases h1 : 1 < f ∨ (f = 0 ∧ toldB m s u g gs = true)
  · refine .inl ⟨?_, fun h => h.untold h1⟩
    unfold calls_Put.f; rw [if_pos hgd, if_pos h1]
  · by_cases h2 : f = 1 ∧ (255 < m.size ∨ 16 < gs.length)
    · refine .inl ⟨?_, fun h => ?_⟩
      · unfold calls_Put.f; rw [if_pos hgd, if_neg h1, if_pos h2]
      · have := h.small
        rcases h2.2 with h3 | h3 <;> omega
    · have hok : CallOk x p v o f m s u g gs := by
        refine ⟨hx, hp, hv, ho, ?_, fun h0 => ?_, fun h0 => ⟨?_, ?_⟩, hs, hu, hg, hgs⟩
        · have := hf.1
          by_cases h0 : f = 0
          · exact .inl h0
          · exact .inr (by have : ¬ 1 < f := fun h => h1 (.inl h); omega)
        · have ht : toldB m s u g gs = false := by
            cases ht : toldB m s u g gs
            · rfl
            · exact absurd (.inr ⟨h0, ht⟩) h1
          unfold toldB at ht
          simp only [Bool.or_eq_false_iff, Bool.not_eq_false', beq_iff_eq] at ht
          obtain ⟨⟨⟨⟨k1, k2⟩, k3⟩, k4⟩, k5⟩ := ht
          refine ⟨?_, k2, k3, k4, List.eq_nil_of_length_eq_zero k5⟩
          exact ByteArray.size_eq_zero_iff.mp k1
        · exact Nat.le_of_not_lt fun h => h2 ⟨h0, .inl h⟩
        · exact Nat.le_of_not_lt fun h => h2 ⟨h0, .inr h⟩
      by_cases h3 : 65536 < (callB x p v o f m s u g gs ++ b).length
      · refine .inr (.inl ⟨?_, hok, h3⟩)
        unfold calls_Put.f; rw [if_pos hgd, if_neg h1, if_neg h2, if_pos h3]
      · exact .inr (.inr ⟨cput_ok hok b (by omega), hok, by omega⟩)

theorem front_ {k : IntKind} {w : World} {A : Option Addr} {l : List Int} {x : Int} (h : Kd.C (Kd.int k) w A (l ++ [x]).length (l ++ [x])) : Kd.C (Kd.int k) w A l.length l := by
  have := Kd.C_take h (m := l.length) (by rw [List.length_append]; omega)
  rwa [List.take_left] at this
/-- A copy of numbers with a mark behind it, as a book wants it. -/
theorem rowN_twin {w : World} {base B : Nat} {A : Option Addr} {c : Nat} {l : List Int} {x : Int} (h : Kd.R (Kd.int .u32) 22 w base (fun _ => True) (.slice A (l.length + 1) c) (l ++ [x])) (hB : B ≤ base) : w.ownsRow B 22 1 (.slice A l.length c) l.length (nums .u32 l) := by
  have h1 := Kd.own_of_R h
  rw [List.length_append, List.length_singleton] at h1
  have h2 := own_take (m := l.length) h1 (Nat.le_succ _)
  have hx : (encs (Value.int .u32) (l ++ [x])).take (l.length * 1) = nums .u32 l := by
    unfold encs nums
    rw [Nat.mul_one, List.map_append, List.take_left' (by rw [List.length_map])]
  rw [hx] at h2
  exact World.ownsRow.mono h2 hB
theorem rowN_of {w : World} {base B : Nat} {A : Option Addr} {c : Nat} {xs : List Int} (h : Kd.R (Kd.int .u32) 22 w base (fun _ => True) (.slice A xs.length c) xs) (hB : B ≤ base) : w.ownsRow B 22 1 (.slice A xs.length c) xs.length (nums .u32 xs) :=
  World.ownsRow.mono (Kd.own_of_R h) hB
theorem rowsN1 {B : Nat} {w : World} {A1 : Option Addr} {n1 c1 : Nat} {x1 : List Int} {k1 : Int} (h1 : w.ownsRow B 22 1 (.slice A1 n1 c1) n1 (nums .u32 x1)) :
    ∃ X, RwsNumber B w [ent A1 n1 c1 k1] X :=
  ⟨fun _ => x1, fun j hj => by
    match j, hj with
    | 0, _ => exact h1⟩
theorem rowsN2 {B : Nat} {w : World} {A1 A2 : Option Addr} {n1 n2 c1 c2 : Nat} {x1 x2 : List Int} {k1 k2 : Int} (h1 : w.ownsRow B 22 1 (.slice A1 n1 c1) n1 (nums .u32 x1)) (h2 : w.ownsRow B 22 1 (.slice A2 n2 c2) n2 (nums .u32 x2)) :
    ∃ X, RwsNumber B w [ent A1 n1 c1 k1, ent A2 n2 c2 k2] X :=
  ⟨fun j => if j = 0 then x1 else x2, fun j hj => by
    match j, hj with
    | 0, _ => exact h1
    | 1, _ => exact h2⟩
theorem rowsB1 {B : Nat} {w : World} {A1 : Option Addr} {n1 c1 : Nat} {x1 : List Int} {k1 : Int} (h1 : w.ownsRow B 5 1 (.slice A1 n1 c1) n1 (nums .u8 x1)) :
    ∃ X, RwsByte B w [ent A1 n1 c1 k1] X :=
  ⟨fun _ => x1, fun j hj => by
    match j, hj with
    | 0, _ => exact h1⟩
theorem farB1 (a : Ent) : FarByte [a] := fun i j hi hj hne => absurd (by simp at hi hj; omega) hne
theorem farN1 (a : Ent) : FarNumber [a] := fun i j hi hj hne => absurd (by simp at hi hj; omega) hne
theorem farN_of {es : List Ent} (h : FarByte es) : FarNumber es := h
theorem nb1 {A1 : Option Addr} {n1 c1 : Nat} {k1 : Int} (h1 : n1 ≤ 100000000) (a1 : 0 ≤ k1 ∧ k1 ≤ 100) :
    ∀ (j : Nat) (h : j < [ent A1 n1 c1 k1].length), 0 ≤ [ent A1 n1 c1 k1][j].n ∧ [ent A1 n1 c1 k1][j].n ≤ 100 ∧ [ent A1 n1 c1 k1][j].len ≤ 100000000 := fun j hj => by
  match j, hj with
  | 0, _ => exact ⟨a1.1, a1.2, h1⟩
theorem len_le1 (a : Ent) : [a].length ≤ 100 := Nat.le_of_ble_eq_true rfl
theorem lt01 (a : Ent) : 0 < [a].length := Nat.succ_pos _
theorem lit2_i64 (W : World) (x y : Int) : Kd.C (Kd.int .i64) (W.alloc (.cells #[.int .i64 x, .int .i64 y] 3)) (some ⟨W.heap.size, 0, none⟩) [x, y].length [x, y] :=
  lit_readsK .i64 3 W [x, y] #[.int .i64 x, .int .i64 y] (0, 0) rfl (by simp)
/-- What is carried through the law on one who calls. -/
structure DC (w0 w : World) (K : Nat) (u g : Int) (A : Option Addr) (c : Nat) (l : List Int) (A4 : Option Addr) (c4 : Nat) : Prop where
  b : Below w0.heap.size w0 w
  x : Cred3 w w0.heap.size u g (.slice A l.length c)
  y : Cred3 w K u g (.slice A4 l.length c4)
  r : Kd.C (Kd.int .u32) w A l.length l
  t : Kd.C (Kd.int .u32) w A4 (l ++ [77]).length (l ++ [77])
  o : w.ownsRow w0.heap.size 22 1 (.slice A4 l.length c4) l.length (nums .u32 l)
theorem DC.step {w0 w w1 : World} {K : Nat} {u g : Int} {A : Option Addr} {c : Nat} {l : List Int} {A4 : Option Addr} {c4 : Nat} (h : DC w0 w K u g A c l A4 c4) (hb : Below w.heap.size w w1) : DC w0 w1 K u g A c l A4 c4 :=
  ⟨below_then h.b h.b.size hb, h.x.below hb, h.y.below hb, Kd.C_below h.r hb, Kd.C_below h.t hb, pw_own_below h.o hb⟩
/-- A row of bytes that was answered. -/
structure DX (w0 w : World) (A : Option Addr) (c : Nat) (xs : List Int) : Prop where
  o : w.ownsRow w0.heap.size 5 1 (.slice A xs.length c) xs.length (nums .u8 xs)
  r : Kd.C (Kd.int .u8) w A xs.length xs
  c : xs.length ≤ c
theorem DX.step {w0 w w1 : World} {A : Option Addr} {c : Nat} {xs : List Int} (h : DX w0 w A c xs) (hb : Below w.heap.size w w1) : DX w0 w1 A c xs :=
  ⟨pw_own_below h.o hb, Kd.C_below h.r hb, h.c⟩
theorem DX.new {w0 w w1 : World} {A : Option Addr} {c : Nat} {xs : List Int} (h : OB w1 w.heap.size (.slice A xs.length c) xs) (hB : w0.heap.size ≤ w.heap.size) (hc : xs.length ≤ c) (hr : RB w1 A xs) : DX w0 w1 A c xs :=
  ⟨row_of h hB, hr, hc⟩
/-- One who calls that was answered, in a variable. -/
structure DV (w0 w : World) (K : Nat) (u g : Int) (A : Option Addr) (c : Nat) (xs : List Int) : Prop where
  y : Cred3 w K u g (.slice A xs.length c)
  o : w.ownsRow w0.heap.size 22 1 (.slice A xs.length c) xs.length (nums .u32 xs)
  r : Kd.C (Kd.int .u32) w A xs.length xs
  c : xs.length ≤ c
theorem DV.step {w0 w w1 : World} {K : Nat} {u g : Int} {A : Option Addr} {c : Nat} {xs : List Int} (h : DV w0 w K u g A c xs) (hb : Below w.heap.size w w1) : DV w0 w1 K u g A c xs :=
  ⟨h.y.below hb, pw_own_below h.o hb, Kd.C_below h.r hb, h.c⟩
theorem DV.new {w0 w w1 : World} {u g : Int} {A : Option Addr} {c : Nat} {xs : List Int} (h : Kd.R (Kd.int .u32) 22 w1 w.heap.size (fun _ => True) (.slice A xs.length c) xs) (hB : w0.heap.size ≤ w.heap.size) (hc : xs.length ≤ c) (hr : Kd.C (Kd.int .u32) w1 A xs.length xs) :
    DV w0 (w1.alloc (.cells #[.int .u32 u, .int .u32 g, .slice A xs.length c] 25)) w1.heap.size u g A c xs :=
  ⟨cred3_new w1 u g _, pw_own_below (rowN_of h hB) (below_alloc (Below.refl _ _) _), Kd.C_below hr (below_alloc (Below.refl _ _) _), hc⟩
/-- What is carried through the law on bytes. -/
structure DW (w0 w : World) (A : Option Addr) (l : List Int) (A4 : Option Addr) (c4 : Nat) : Prop where
  b : Below w0.heap.size w0 w
  r : Kd.C (Kd.int .u8) w A l.length l
  t : Kd.C (Kd.int .u8) w A4 (l ++ [77]).length (l ++ [77])
  o : w.ownsRow w0.heap.size 5 1 (.slice A4 l.length c4) l.length (nums .u8 l)
theorem DW.step {w0 w w1 : World} {A : Option Addr} {l : List Int} {A4 : Option Addr} {c4 : Nat} (h : DW w0 w A l A4 c4) (hb : Below w.heap.size w w1) : DW w0 w1 A l A4 c4 :=
  ⟨below_then h.b h.b.size hb, Kd.C_below h.r hb, Kd.C_below h.t hb, pw_own_below h.o hb⟩
/-- What a book's keeping writes. -/
def BKT (t : TypeId) : Prop := t = 44 ∨ t = 81 ∨ t = 84
theorem Cred3.kept {w w1 : World} {C : Nat} {u g : Int} {v : Value} (h : Cred3 w C u g v) (hk : TK BKT w w1) : Cred3 w1 C u g v :=
  (hk.block C _ _ _ h (by unfold BKT; decide)).trans h
set_option maxHeartbeats 1000000 in
theorem bytes_keep2 (w0 w : World) (K : Nat) (nn : Int) (mb mn : Nat) (bs ns : List Ent) (la : Option Addr) (len lc : Nat) (h : BookS w0 w K nn mb mn bs ns) (hm : mb < bs.length) (he : bs[mb] = ⟨la, len, lc, none, 0, 0, nn + 1⟩) (h0 : 0 ≤ nn) (h1 : nn ≤ 100) :
    Calls Tryd.prog 12 #[.pointer (some ⟨K, 0, none⟩), .slice la len lc] w fun e w' => e = .returned (.tuple #[]) ∧ BookS w0 w' K (nn + 1) (mb + 1) mn bs ns ∧ TK BKT w w' := by
  obtain ⟨vB, vN, k1, k2, k3⟩ := h.ex
  have hc := keepByte_calls w0.heap.size K nn vB vN mb bs la len lc w k1 k2 hm (by rw [he]) (by rw [he]) (by rw [he]) h0 h1 (by have := h.lb; omega) h.hK
  have H := Aside0.mk h
  have K3 := Aside0.mk k3
  clear h k1 k2 k3 he
  go_enter Tryd.func12, Tryd.ntmps12
  go_wp2_with fail
  refine hc.mono ?_
  clear hc
  rintro e w1 ⟨rfl, vX, a1, a2, a3, a4⟩
  obtain ⟨X, hX⟩ := H.out.rb
  obtain ⟨Y, hY⟩ := H.out.rn
  have HE := Aside0.mk (show BookS w0 w1 K (nn + 1) (mb + 1) mn bs ns from ⟨⟨vX, vN, a1, a2, a3.row K3.out (by decide)⟩, ⟨X, fun j hj => a3.row (hX j hj) (by decide)⟩, ⟨Y, fun j hj => a3.row (hY j hj) (by decide)⟩, H.out.fb, H.out.fn, H.out.nb, H.out.nu, H.out.lb, H.out.ln, H.out.bel.trans a4, H.out.hK⟩)
  have HF := Aside0.mk (show TK BKT w w1 from a3.mono (fun t ht => ht.elim .inl (fun h => .inr (.inl h))))
  clear a1 a2 a3 a4 hX hY
  go_wp2
  go_end0
  exact ⟨rfl, HE.out, HF.out⟩
set_option maxHeartbeats 1000000 in
theorem numbers_keep2 (w0 w : World) (K : Nat) (nn : Int) (mb mn : Nat) (bs ns : List Ent) (la : Option Addr) (len lc : Nat) (h : BookS w0 w K nn mb mn bs ns) (hm : mn < ns.length) (he : ns[mn] = ⟨la, len, lc, none, 0, 0, nn + 1⟩) (h0 : 0 ≤ nn) (h1 : nn ≤ 100) :
    Calls Tryd.prog 68 #[.pointer (some ⟨K, 0, none⟩), .slice la len lc] w fun e w' => e = .returned (.tuple #[]) ∧ BookS w0 w' K (nn + 1) mb (mn + 1) bs ns ∧ TK BKT w w' := by
  obtain ⟨vB, vN, k1, k2, k3⟩ := h.ex
  have hc := keepNumber_calls w0.heap.size K nn vB vN mn ns la len lc w k1 k3 hm (by rw [he]) (by rw [he]) (by rw [he]) h0 h1 (by have := h.ln; omega) h.hK
  have H := Aside0.mk h
  have K3 := Aside0.mk k2
  clear h k1 k2 k3 he
  go_enter Tryd.func68, Tryd.ntmps68
  go_wp2_with fail
  refine hc.mono ?_
  clear hc
  rintro e w1 ⟨rfl, vX, a1, a2, a3, a4⟩
  obtain ⟨X, hX⟩ := H.out.rb
  obtain ⟨Y, hY⟩ := H.out.rn
  have HE := Aside0.mk (show BookS w0 w1 K (nn + 1) mb (mn + 1) bs ns from ⟨⟨vB, vX, a1, a3.row K3.out (by decide), a2⟩, ⟨X, fun j hj => a3.row (hX j hj) (by decide)⟩, ⟨Y, fun j hj => a3.row (hY j hj) (by decide)⟩, H.out.fb, H.out.fn, H.out.nb, H.out.nu, H.out.lb, H.out.ln, H.out.bel.trans a4, H.out.hK⟩)
  have HF := Aside0.mk (show TK BKT w w1 from a3.mono (fun t ht => ht.elim .inl (fun h => .inr (.inr h))))
  clear a1 a2 a3 a4 hX hY
  go_wp2
  go_end0
  exact ⟨rfl, HE.out, HF.out⟩
set_option maxHeartbeats 1000000 in
theorem cred_keep2 (w0 w : World) (K : Nat) (nn : Int) (mb mn : Nat) (bs ns : List Ent) (u g : Int) (la : Option Addr) (len lc : Nat) (h : BookS w0 w K nn mb mn bs ns) (hm : mn < ns.length) (he : ns[mn] = ⟨la, len, lc, none, 0, 0, nn + 1⟩) (h0 : 0 ≤ nn) (h1 : nn ≤ 100) :
    Calls Tryd.prog 28 #[.pointer (some ⟨K, 0, none⟩), .agg #[.int .u32 u, .int .u32 g, .slice la len lc]] w fun e w' => e = .returned (.tuple #[]) ∧ BookS w0 w' K (nn + 1) mb (mn + 1) bs ns ∧ TK BKT w w' := by
  have hc := fun W (hW : BookS w0 W K nn mb mn bs ns) => numbers_keep2 w0 W K nn mb mn bs ns la len lc hW hm he h0 h1
  have HC := Aside0.mk hc
  have HT0 := Aside0.mk (TK.of_below (below_alloc (Below.refl _ _) (.cells #[.int .u32 u, .int .u32 g, .slice la len lc] 25) : Below w.heap.size w _) BKT)
  have H := Aside0.mk (h.step (below_alloc (Below.refl _ _) (.cells #[.int .u32 u, .int .u32 g, .slice la len lc] 25)))
  clear h he hc
  go_enter Tryd.func28, Tryd.ntmps28
  go_wp2_with fail
  refine (HC.out _ H.out).mono ?_
  rintro e w1 ⟨rfl, hs⟩
  have HE := Aside0.mk hs.1
  have HF := Aside0.mk (HT0.out.trans hs.2)
  clear hs
  go_wp2
  go_end0
  exact ⟨rfl, HE.out, HF.out⟩
end Go.Proofs.YtoalknneifpehaaDoor.Hand
