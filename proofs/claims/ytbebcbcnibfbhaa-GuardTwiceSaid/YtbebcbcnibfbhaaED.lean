import Derived.Test.YtbebcbcnibfbhaaEC
/- The engine, fourth text: reading related values; sealing. -/
namespace Go.Proofs.Ytbebcbcnibfbhaa.Ab
open Go

section inv
variable {K : KS} {bs : List AB} {hp : Array Obj}
theorem RepV.inv_bool {b : Bool} {v : Value} (h : RepV K bs hp (.bool b) v) : v = .bool b := by
  cases h with | clean h => cases h; rfl
theorem RepV.inv_int {k : IntKind} {n : Int} {v : Value} (h : RepV K bs hp (.int k n) v) : v = .int k n := by
  cases h with | clean h => cases h; rfl
theorem RepV.inv_str {s : List UInt8} {v : Value} (h : RepV K bs hp (.str s) v) : ∃ t : ByteArray, v = .string t ∧ t.data.toList = s := by
  cases h with | clean h => cases h with | str t => exact ⟨t, rfl, rfl⟩
theorem RepV.inv_ptr0 {v : Value} (h : RepV K bs hp .ptr0 v) : v = .pointer none := by
  cases h with | clean h => cases h; rfl
theorem RepV.inv_sl0 {v : Value} (h : RepV K bs hp .sl0 v) : v = .slice none 0 0 := by
  cases h with | clean h => cases h; rfl
theorem RepV.inv_map0 {v : Value} (h : RepV K bs hp .map0 v) : v = .map none := by
  cases h with | clean h => cases h; rfl
theorem RepV.inv_fn0 {v : Value} (h : RepV K bs hp .fn0 v) : v = .nilFunc := by
  cases h with | clean h => cases h; rfl
theorem RepV.inv_ifc0 {v : Value} (h : RepV K bs hp .ifc0 v) : v = .nilIface := by
  cases h with | clean h => cases h; rfl
theorem RepV.inv_vref {c : List AV} {off : Nat} {v : Value} (h : RepV K bs hp (.vref c off) v) :
    ∃ b o us, v = .pointer (some ⟨b, o + off, none⟩) ∧ (c = [] ∨ K.I b) ∧ (∀ (i : Nat) (u : Value), us[i]? = some u → cellH hp b (o + i) = some u ∧ u.oneCell' = true) ∧ RepPL K.I hp c us := by
  cases h with | clean h => cases h with | vref h1 h2 h3 => exact ⟨_, _, _, rfl, h1, h2, h3⟩
theorem RepV.inv_sl {c : List AV} {n : Nat} {tight : Bool} {v : Value} (h : RepV K bs hp (.sl c n tight) v) :
    ∃ b o sp cap us, v = .slice (some ⟨b, o, sp⟩) n cap ∧ n ≤ cap ∧ (tight = true → cap = n) ∧ (c = [] ∨ K.I b) ∧ (∀ (i : Nat) (u : Value), us[i]? = some u → cellH hp b (o + i) = some u ∧ u.oneCell' = true) ∧ RepPL K.I hp c us ∧ (sp = none ∨ cap = 0) := by
  cases h with | clean h => cases h with | sl h1 h2 h3 h4 h5 h6 => exact ⟨_, _, _, _, _, rfl, h1, h2, h3, h4, h5, h6⟩
theorem RepV.inv_ref {b off ver : Nat} {v : Value} (h : RepV K bs hp (.ref b off ver) v) : ∃ x, v = .pointer (some ⟨x, off, none⟩) ∧ born bs b ver ∧ (∀ c i, bs[b]? = some (.cells c i) → ver = verOf c i → x = K.β b) := by
  cases h with
  | clean h => cases h
  | ref h1 h2 => exact ⟨_, rfl, h1, h2⟩
theorem RepV.inv_rsl {b off n : Nat} {cap : Option Nat} {ver : Nat} {v : Value} (h : RepV K bs hp (.rsl b off n cap ver) v) : ∃ x o cp, v = .slice (some ⟨x, o, none⟩) n cp ∧ born bs b ver ∧ n ≤ cp ∧ (∀ m, cap = some m → cp = m) ∧ (cp = 0 ∨ o = off) ∧
    (∀ c i, bs[b]? = some (.cells c i) → ver = verOf c i → x = K.β b ∧ (cap = none → off + cp * i.sz ≤ K.κ b ∧ c.length ≤ off + cp * i.sz)) := by
  cases h with
  | clean h => cases h
  | rsl h1 h2 h3 h4 h5 => exact ⟨_, _, _, rfl, h1, h2, h3, h4, h5⟩
theorem RepV.inv_mref {b : Nat} {v : Value} (h : RepV K bs hp (.mref b) v) : ∃ x, v = .map (some x) ∧ ∀ es, bs[b]? = some (.map es) → x = K.β b := by
  cases h with
  | clean h => cases h
  | mref _ h2 => exact ⟨_, rfl, h2⟩
theorem RepV.inv_yc {b : Nat} {v : Value} (h : RepV K bs hp (.yc b) v) : ∃ x, v = .func (.yield x) #[] #[] ∧ ∀ f t p a c s j, bs[b]? = some (.loop f t p a c s j) → x = K.β b := by
  cases h with
  | clean h => cases h
  | yc _ h2 => exact ⟨_, rfl, h2⟩
theorem RepV.inv_fn {f : FuncId} {a b : List AV} {v : Value} (h : RepV K bs hp (.fn f a b) v) : ∃ va vb : List Value, v = .func (.func f) va.toArray vb.toArray ∧ RepVL K bs hp a va ∧ RepVL K bs hp b vb := by
  cases h with
  | clean h => cases h with | fn h1 h2 => exact ⟨_, _, rfl, .of_clean h1, .of_clean h2⟩
  | fn h1 h2 => exact ⟨_, _, rfl, h1, h2⟩
theorem RepV.inv_ifc {t : TypeId} {a : AV} {v : Value} (h : RepV K bs hp (.ifc t a) v) : ∃ u, v = .iface t u ∧ RepV K bs hp a u := by
  cases h with
  | clean h => cases h with | ifc h => exact ⟨_, rfl, .clean h⟩
  | ifc h => exact ⟨_, rfl, h⟩
theorem RepV.inv_agg {c : List AV} {v : Value} (h : RepV K bs hp (.agg c) v) : ∃ vs : List Value, v = .agg vs.toArray ∧ RepVL K bs hp c vs := by
  cases h with
  | clean h => cases h with | agg h => exact ⟨_, rfl, .of_clean h⟩
  | agg h => exact ⟨_, rfl, h⟩
theorem RepV.inv_tup {c : List AV} {v : Value} (h : RepV K bs hp (.tup c) v) : ∃ vs : List Value, v = .tuple vs.toArray ∧ RepVL K bs hp c vs := by
  cases h with
  | clean h => cases h with | tup h => exact ⟨_, rfl, .of_clean h⟩
  | tup h => exact ⟨_, rfl, h⟩
end inv

/-! Sealing -/
/-- The blocks name no more than they did. -/
structure TopLe (bs bs' : List AB) : Prop where
  len : bs'.length = bs.length
  top : ∀ (b : Nat) x', bs'[b]? = some x' → ∃ x, bs[b]? = some x ∧ x'.top ≤ x.top
theorem TopLe.refl (bs : List AB) : TopLe bs bs := ⟨rfl, fun _ x h => ⟨x, h, Nat.le_refl _⟩⟩
theorem TopLe.trans {a b c : List AB} (h : TopLe a b) (k : TopLe b c) : TopLe a c :=
  ⟨k.len.trans h.len, fun i x hx => by
    obtain ⟨y, hy, h1⟩ := k.top i x hx
    obtain ⟨z, hz, h2⟩ := h.top i y hy
    exact ⟨z, hz, Nat.le_trans h1 h2⟩⟩
theorem TopLe.esc {h : H} {bs' : List AB} (t : TopLe h.bs bs') (he : EscR h) : EscR { h with bs := bs' } := by
  intro b x hx
  obtain ⟨y, hy, h1⟩ := t.top b x hx
  rcases he b y hy with h2 | ⟨e, h2, h3, h4⟩
  · exact .inl (Nat.le_trans h1 h2)
  · exact .inr ⟨e, h2, h3, Nat.le_trans h1 h4⟩

structure Sealed (K : KS) (bs : List AB) (hp : Array Obj) (K' : KS) (bs' : List AB) : Prop where
  tr : Tr K bs hp K' bs' hp
  hr : HR K' bs' hp
  top : TopLe bs bs'
theorem Sealed.trans {K K' K'' : KS} {bs bs' bs'' : List AB} {hp : Array Obj} (h : Sealed K bs hp K' bs') (k : Sealed K' bs' hp K'' bs'') : Sealed K bs hp K'' bs'' :=
  ⟨h.tr.trans k.tr, k.hr, h.top.trans k.top⟩
def DeepOk (deep : List AB → List AV → List AV × List AB) : Prop :=
  ∀ K bs hp l us, HR K bs hp → RepVL K bs hp l us → ∃ K', Sealed K bs hp K' (deep bs l).2 ∧ RepVL K' (deep bs l).2 hp (deep bs l).1 us

theorem sealOne {K : KS} {bs : List AB} {hp : Array Obj} {b : Nat} {c c' : List AV} {i : BI} {us : List Value} (hr : HR K bs hp) (hb : bs[b]? = some (.cells c i)) (hw : i.wr = true) (hl : c'.length = c.length)
    (hm : ∃ (cc : Array Value) (e : TypeId) (lo hi : Nat), hp[K.β b]? = some (.cells cc e (lo, hi)) ∧ Unfr cc.size lo hi ∧ cc.size = K.κ b ∧ (∀ (j : Nat) (u : Value), us[j]? = some u → cc[j]? = some u ∧ u.oneCell' = true))
    (hc : RepPL K.I hp c' us) : Sealed K bs hp { K with I := fun x => K.I x ∨ x = K.β b } (bs.set b (.cells c' { i with cl := true, wr := false })) := by
  have hlt : b < bs.length := (List.getElem?_eq_some_iff.1 hb).1
  have hget : ∀ j, (bs.set b (AB.cells c' { i with cl := true, wr := false }))[j]? = if j = b then some (.cells c' { i with cl := true, wr := false }) else bs[j]? := by
    intro j
    rw [List.getElem?_set]
    by_cases h : b = j
    · subst h; simp [hlt]
    · rw [if_neg h, if_neg (fun e => h e.symm)]
  have htr : Tr K bs hp { K with I := fun x => K.I x ∨ x = K.β b } (bs.set b (.cells c' { i with cl := true, wr := false })) hp := by
    refine ⟨Nat.le_refl _, fun _ _ _ => rfl, fun _ h => .inl h, ?_, ?_, ?_, ?_, by simp⟩
    · rintro x (h | h)
      · exact .inl h
      · exact .inr (.inr ⟨b, _, hb, hw, h.symm⟩)
    · rintro x ⟨j, y, hy, hyw, he⟩
      rw [hget] at hy
      split at hy
      · cases hy; simp [AB.wrt] at hyw
      · exact .inl ⟨j, y, hy, hyw, he⟩
    · intro j y hj hy hyl
      rw [hget] at hy
      split at hy
      · rename_i e; subst e
        cases hy
        refine ⟨_, hb, .inr ⟨rfl, ⟨rfl, rfl, fun _ => hl.symm⟩, ?_, fun _ => ⟨rfl, rfl⟩⟩⟩
        simp [AB.ver, verA, hl]
      · exact ⟨y, hy, .inr ⟨hyl, kin_refl hyl, Nat.le_refl _, fun _ => ⟨rfl, rfl⟩⟩⟩
    · intro j y hj hy hv
      rw [hget] at hy
      split at hy
      · cases hy; cases hv
      · exact ⟨y, hy, hv⟩
  have L := htr.lat hr
  refine ⟨htr, ⟨?_, ?_, ?_, ?_, ?_⟩, ⟨by simp, ?_⟩⟩
  · intro j j' x x' hx hx' hxl hxl' he
    rw [hget] at hx hx'
    have e1 : ∃ y, bs[j]? = some y ∧ y.live = true := by
      split at hx
      · rename_i e; subst e; exact ⟨_, hb, rfl⟩
      · exact ⟨x, hx, hxl⟩
    have e2 : ∃ y, bs[j']? = some y ∧ y.live = true := by
      split at hx'
      · rename_i e; subst e; exact ⟨_, hb, rfl⟩
      · exact ⟨x', hx', hxl'⟩
    obtain ⟨y, h1, h2⟩ := e1
    obtain ⟨y', h3, h4⟩ := e2
    exact hr.inj j j' y y' h1 h3 h2 h4 he
  · intro j x hx hxl
    rw [hget] at hx
    split at hx
    · rename_i e; subst e
      cases hx
      obtain ⟨cc, e, lo, hi, h1, h2, h3, h4⟩ := hm
      exact ⟨_, h1, cc, e, lo, hi, us, rfl, h2, h3, h4, .of_clean (hc.mono (fun _ h => .inl h) (fun _ _ => rfl)), fun _ => hc.isClean⟩
    · obtain ⟨o, ho, hR⟩ := hr.obj j x hx hxl
      exact ⟨o, ho, hR.mono L⟩
  · rintro x (h | h)
    · exact hr.ilt x h
    · subst h; exact hr.lt b _ hb rfl
  · intro j x hx hxw hI
    rw [hget] at hx
    split at hx
    · cases hx; simp [AB.wrt] at hxw
    · rename_i hne
      rcases hI with hI | hI
      · exact hr.wr j x hx hxw hI
      · exact hne (hr.inj j b x _ hx hb (wrt_live hxw) rfl hI)
  · intro j d k hx hk
    rw [hget] at hx
    split at hx
    · rename_i e; subst e
      cases hx
      exact ⟨.inr rfl, rfl⟩
    · have := hr.nwr j d k hx hk
      exact ⟨.inl this.1, this.2⟩
  · intro j x hx
    rw [hget] at hx
    split at hx
    · rename_i e; subst e
      cases hx
      exact ⟨_, hb, by simp [AB.top]⟩
    · exact ⟨x, hx, Nat.le_refl _⟩

theorem sealB_sound {deep : List AB → List AV → List AV × List AB} (hd : DeepOk deep) {K : KS} {bs : List AB} {hp : Array Obj} (hr : HR K bs hp) {b ver : Nat} {c' : List AV} {i : BI} {bs' : List AB}
    (h : sealB deep bs b ver = some (c', i, bs')) : ∃ K' us c, Sealed K bs hp K' bs' ∧ bs[b]? = some (.cells c i) ∧ ver = verOf c i ∧ c'.length = c.length ∧ K'.I (K.β b) ∧
      (∀ (j : Nat) (u : Value), us[j]? = some u → cellH hp (K.β b) j = some u ∧ u.oneCell' = true) ∧ RepPL K'.I hp c' us := by
  unfold sealB at h
  cases hb : bs[b]? with
  | none => simp [hb] at h
  | some x =>
    cases x with
    | cells c i0 =>
      simp only [hb] at h
      by_cases hv : ver = verA i0 c.length
      case neg => rw [if_neg hv] at h; cases h
      rw [if_pos hv] at h
      obtain ⟨o, ho, cc, e, lo, hi, us, rfl, h2, h3, h4, h5, h6⟩ := hr.obj b _ hb rfl
      have hcell : ∀ (j : Nat) (u : Value), us[j]? = some u → cellH hp (K.β b) j = some u ∧ u.oneCell' = true := by
        intro j u hu
        unfold cellH
        rw [ho]
        exact h4 j u hu
      cases hw : i0.wr with
      | false =>
        rw [if_pos hw] at h
        cases h
        have := hr.nwr b c' i hb hw
        exact ⟨K, us, c', ⟨Tr.refl _ _ _, hr, TopLe.refl _⟩, rfl, hv, rfl, this.1, hcell, h5.toP (h6 this.2)⟩
      | true =>
        rw [if_neg (by simp [hw])] at h
        cases hcl : i0.cl with
        | true =>
          rw [if_pos hcl] at h
          cases h
          have hp5 := h5.toP (h6 hcl)
          have hs := sealOne hr hb hw rfl ⟨cc, e, lo, hi, ho, h2, h3, h4⟩ hp5
          have ei : ({ i with cl := true, wr := false } : BI) = { i with wr := false } := by cases i; simp_all
          rw [ei] at hs
          exact ⟨_, us, c', hs, rfl, hv, rfl, .inr rfl, hcell, hp5.mono (fun _ h => .inl h) (fun _ _ => rfl)⟩
        | false =>
          rw [if_neg (by simp [hcl])] at h
          cases hb1 : (deep bs c).2[b]? with
          | none => simp [hb1] at h
          | some y =>
            cases y with
            | cells d j =>
              simp only [hb1] at h
              split at h
              · rename_i hcc
                cases h
                simp only [Bool.and_eq_true, beq_iff_eq] at hcc
                obtain ⟨⟨⟨⟨⟨k1, k2⟩, k3⟩, k4⟩, k5⟩, k6⟩ := hcc
                obtain ⟨K1, hs1, hv1⟩ := hd K bs hp c us hr h5
                have hver : ver = verOf d j := by unfold verOf verA; rw [k3, k5]; exact hv
                obtain ⟨c2, i2, g1, g2, g3, g4, g5, g6, g7⟩ := (hs1.tr.lat hr).cells b ver ⟨_, hb, rfl, fun _ => by rw [hv]; exact Nat.le_refl _⟩ d j hb1 hver
                have hp5 := hv1.toP k1
                have hs := sealOne (c' := (deep bs c).1) hs1.hr hb1 k4 (k2.trans k3.symm) ⟨cc, e, lo, hi, by rw [g6]; exact ho, h2, by rw [g7]; exact h3, h4⟩ hp5
                exact ⟨_, us, c, hs1.trans hs, rfl, hv, k2, .inr g6.symm, hcell, hp5.mono (fun _ h => .inl h) (fun _ _ => rfl)⟩
              · cases h
            | _ => simp [hb1] at h
    | _ => simp [hb] at h

theorem cells_mono {hp : Array Obj} {b o : Nat} {us : List Value} (h : ∀ (j : Nat) (u : Value), us[j]? = some u → cellH hp b j = some u ∧ u.oneCell' = true) (n : Nat) :
    ∀ (j : Nat) (u : Value), ((us.drop o).take n)[j]? = some u → cellH hp b (o + j) = some u ∧ u.oneCell' = true := by
  intro j u hu
  rw [List.getElem?_take] at hu
  split at hu
  · rw [List.getElem?_drop] at hu
    exact h _ _ hu
  · cases hu
mutual
theorem sealV_sound {deep : List AB → List AV → List AV × List AB} (hd : DeepOk deep) {K : KS} {bs : List AB} {hp : Array Obj} (hr : HR K bs hp) :
    ∀ (a : AV) {v : Value}, RepV K bs hp a v → ∃ K', Sealed K bs hp K' (sealV deep bs a).2 ∧ RepV K' (sealV deep bs a).2 hp (sealV deep bs a).1 v
  | .rsl b off n cap ver, v, h => by
    simp only [sealV]
    cases hs : sealB deep bs b ver with
    | none => exact ⟨K, ⟨Tr.refl _ _ _, hr, TopLe.refl _⟩, h⟩
    | some r =>
      obtain ⟨c', i, bs'⟩ := r
      simp only
      split
      · rename_i hc
        obtain ⟨K', us, c, h1, h2, h3, h4, h5, h6, h7⟩ := sealB_sound hd hr hs
        obtain ⟨x, o, cp, rfl, _, e2, e3, e5, e4⟩ := h.inv_rsl
        obtain rfl := (e4 c i h2 h3).1
        have ht : tightA cap n = true → cp = n := by
          intro ht
          cases cap with
          | none => simp [tightA] at ht
          | some m => simp [tightA] at ht; rw [e3 m rfl, ht]
        refine ⟨K', h1, .clean ?_⟩
        rcases e5 with e5 | e5
        · have hn0 : n = 0 := by omega
          subst hn0
          split
          · rename_i hw
            have hc0 : c' = [] := List.eq_nil_of_length_eq_zero (by omega)
            subst hc0
            exact .sl e2 ht (.inl rfl) (us := []) (fun i u hu => by simp at hu) .nil (.inl rfl)
          · rw [Nat.zero_mul, List.take_zero]
            exact .sl e2 ht (.inl rfl) (us := []) (fun i u hu => by simp at hu) .nil (.inl rfl)
        · subst e5
          split
          · rename_i hw
            refine .sl e2 ht (.inr h5) (us := us) ?_ h7 (.inl rfl)
            rw [hw.1]; simpa using h6
          · exact .sl e2 ht (.inr h5) (us := (us.drop o).take (n * i.sz)) (cells_mono h6 _) ((h7.drop _).take _) (.inl rfl)
      · exact ⟨K, ⟨Tr.refl _ _ _, hr, TopLe.refl _⟩, h⟩
  | .ref b off ver, v, h => by
    simp only [sealV]
    cases hs : sealB deep bs b ver with
    | none => exact ⟨K, ⟨Tr.refl _ _ _, hr, TopLe.refl _⟩, h⟩
    | some r =>
      obtain ⟨c', i, bs'⟩ := r
      simp only
      obtain ⟨K', us, c, h1, h2, h3, h4, h5, h6, h7⟩ := sealB_sound hd hr hs
      obtain ⟨x, rfl, _, e1⟩ := h.inv_ref
      obtain rfl := e1 c i h2 h3
      refine ⟨K', h1, .clean ?_⟩
      have := RepP.vref (I := K'.I) (hp := hp) (off := off) (o := 0) (.inr h5) (fun i u hu => by simpa using h6 i u hu) h7
      simpa using this
  | .fn f x y, v, h => by
    simp only [sealV]
    obtain ⟨va, vb, rfl, h1, h2⟩ := h.inv_fn
    obtain ⟨K1, s1, r1⟩ := sealVL_sound hd hr x h1
    obtain ⟨K2, s2, r2⟩ := sealVL_sound hd s1.hr y (h2.mono (s1.tr.lat hr))
    exact ⟨K2, s1.trans s2, .fn (r1.mono (s2.tr.lat s1.hr)) r2⟩
  | .ifc t a, v, h => by
    simp only [sealV]
    obtain ⟨u, rfl, h1⟩ := h.inv_ifc
    obtain ⟨K1, s1, r1⟩ := sealV_sound hd hr a h1
    exact ⟨K1, s1, .ifc r1⟩
  | .agg c, v, h => by
    simp only [sealV]
    obtain ⟨u, rfl, h1⟩ := h.inv_agg
    obtain ⟨K1, s1, r1⟩ := sealVL_sound hd hr c h1
    exact ⟨K1, s1, .agg r1⟩
  | .tup c, v, h => by
    simp only [sealV]
    obtain ⟨u, rfl, h1⟩ := h.inv_tup
    obtain ⟨K1, s1, r1⟩ := sealVL_sound hd hr c h1
    exact ⟨K1, s1, .tup r1⟩
  | .hole, v, h => by simp only [sealV]; exact ⟨K, ⟨Tr.refl _ _ _, hr, TopLe.refl _⟩, h⟩
  | .bool _, v, h => by simp only [sealV]; exact ⟨K, ⟨Tr.refl _ _ _, hr, TopLe.refl _⟩, h⟩
  | .int .., v, h => by simp only [sealV]; exact ⟨K, ⟨Tr.refl _ _ _, hr, TopLe.refl _⟩, h⟩
  | .str _, v, h => by simp only [sealV]; exact ⟨K, ⟨Tr.refl _ _ _, hr, TopLe.refl _⟩, h⟩
  | .ptr0, v, h => by simp only [sealV]; exact ⟨K, ⟨Tr.refl _ _ _, hr, TopLe.refl _⟩, h⟩
  | .sl0, v, h => by simp only [sealV]; exact ⟨K, ⟨Tr.refl _ _ _, hr, TopLe.refl _⟩, h⟩
  | .map0, v, h => by simp only [sealV]; exact ⟨K, ⟨Tr.refl _ _ _, hr, TopLe.refl _⟩, h⟩
  | .fn0, v, h => by simp only [sealV]; exact ⟨K, ⟨Tr.refl _ _ _, hr, TopLe.refl _⟩, h⟩
  | .ifc0, v, h => by simp only [sealV]; exact ⟨K, ⟨Tr.refl _ _ _, hr, TopLe.refl _⟩, h⟩
  | .vref .., v, h => by simp only [sealV]; exact ⟨K, ⟨Tr.refl _ _ _, hr, TopLe.refl _⟩, h⟩
  | .sl .., v, h => by simp only [sealV]; exact ⟨K, ⟨Tr.refl _ _ _, hr, TopLe.refl _⟩, h⟩
  | .mref .., v, h => by simp only [sealV]; exact ⟨K, ⟨Tr.refl _ _ _, hr, TopLe.refl _⟩, h⟩
  | .yc .., v, h => by simp only [sealV]; exact ⟨K, ⟨Tr.refl _ _ _, hr, TopLe.refl _⟩, h⟩
theorem sealVL_sound {deep : List AB → List AV → List AV × List AB} (hd : DeepOk deep) {K : KS} {bs : List AB} {hp : Array Obj} (hr : HR K bs hp) :
    ∀ (l : List AV) {vs : List Value}, RepVL K bs hp l vs → ∃ K', Sealed K bs hp K' (sealVL deep bs l).2 ∧ RepVL K' (sealVL deep bs l).2 hp (sealVL deep bs l).1 vs
  | [], vs, h => by simp only [sealVL]; exact ⟨K, ⟨Tr.refl _ _ _, hr, TopLe.refl _⟩, h⟩
  | a :: l, vs, h => by
    simp only [sealVL]
    cases h with
    | cons h0 h =>
      obtain ⟨K1, s1, r1⟩ := sealV_sound hd hr a h0
      obtain ⟨K2, s2, r2⟩ := sealVL_sound hd s1.hr l (h.mono (s1.tr.lat hr))
      exact ⟨K2, s1.trans s2, .cons (r1.mono (s2.tr.lat s1.hr)) r2⟩
end
theorem sealL_ok : ∀ n, DeepOk (sealL n)
  | 0 => fun K _ _ _ _ hr h => ⟨K, ⟨Tr.refl _ _ _, hr, TopLe.refl _⟩, h⟩
  | n + 1 => fun _ _ _ l _ hr h => sealVL_sound (sealL_ok n) hr l h
theorem seal_sound {K : KS} {bs : List AB} {hp : Array Obj} (hr : HR K bs hp) (a : AV) {v : Value} (h : RepV K bs hp a v) : ∃ K', Sealed K bs hp K' (a.seal bs).2 ∧ RepV K' (a.seal bs).2 hp (a.seal bs).1 v :=
  sealV_sound (sealL_ok 4) hr a h
theorem argA_sound {K : KS} {bs : List AB} {hp : Array Obj} (hr : HR K bs hp) (a : AV) {v : Value} (h : RepV K bs hp a v) : ∃ K', Sealed K bs hp K' (argA bs a).2 ∧ RepV K' (argA bs a).2 hp (argA bs a).1 v := by
  unfold argA
  split
  · exact seal_sound hr _ h
  · exact ⟨K, ⟨Tr.refl _ _ _, hr, TopLe.refl _⟩, h⟩
theorem argsA_sound {K : KS} {bs : List AB} {hp : Array Obj} (hr : HR K bs hp) (l : List AV) {vs : List Value} (h : RepVL K bs hp l vs) : ∃ K', Sealed K bs hp K' (argsA bs l).2 ∧ RepVL K' (argsA bs l).2 hp (argsA bs l).1 vs := by
  induction l generalizing K bs vs with
  | nil => simp only [argsA]; exact ⟨K, ⟨Tr.refl _ _ _, hr, TopLe.refl _⟩, h⟩
  | cons a l ih =>
    simp only [argsA]
    cases h with
    | cons h0 h =>
      obtain ⟨K1, s1, r1⟩ := argA_sound hr a h0
      obtain ⟨K2, s2, r2⟩ := ih s1.hr (h.mono (s1.tr.lat hr))
      exact ⟨K2, s1.trans s2, .cons (r1.mono (s2.tr.lat s1.hr)) r2⟩
end Go.Proofs.Ytbebcbcnibfbhaa.Ab
