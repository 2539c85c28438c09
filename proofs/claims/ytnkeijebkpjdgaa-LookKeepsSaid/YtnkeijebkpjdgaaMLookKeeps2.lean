import Derived.Test.YtnkeijebkpjdgaaMLookKeeps1
import Derived.Laws.Cells
set_option linter.unusedVariables false
set_option linter.unusedSimpArgs false
/- The engine, third text: what an abstract value, block, heap stands for in the machine's memory. -/
namespace Go.Proofs.Ytnkeijebkpjdgaa.Ab
open Go

def cellH (hp : Array Obj) (b o : Nat) : Option Value :=
  match hp[b]? with
  | some (.cells c _ _) => c[o]?
  | _ => none
theorem cell_eq (w : World) (b o : Nat) : w.cell? ⟨b, o, none⟩ = cellH w.heap b o := by
  unfold World.cell? cellH
  cases w.heap[b]? with
  | none => rfl
  | some o => cases o <;> rfl

mutual
/-- What a value stands for that names no block of the call's own: I: the blocks that nobody writes any more. -/
inductive RepP (I : Nat → Prop) (hp : Array Obj) : AV → Value → Prop
  | hole (v : Value) : RepP I hp .hole v
  | bool (b : Bool) : RepP I hp (.bool b) (.bool b)
  | int (k : IntKind) (n : Int) : RepP I hp (.int k n) (.int k n)
  | str (s : ByteArray) : RepP I hp (.str s.data.toList) (.string s)
  | ptr0 : RepP I hp .ptr0 (.pointer none)
  | sl0 : RepP I hp .sl0 (.slice none 0 0)
  | map0 : RepP I hp .map0 (.map none)
  | fn0 : RepP I hp .fn0 .nilFunc
  | ifc0 : RepP I hp .ifc0 .nilIface
  | vref {cells : List AV} {off b o : Nat} {us : List Value} : (cells = [] ∨ I b) → (∀ i u, us[i]? = some u → cellH hp b (o + i) = some u ∧ u.oneCell' = true) → RepPL I hp cells us →
      RepP I hp (.vref cells off) (.pointer (some ⟨b, o + off, none⟩))
  | sl {cells : List AV} {n : Nat} {tight : Bool} {b o cap : Nat} {sp : Option Nat} {us : List Value} : n ≤ cap → (tight = true → cap = n) → (cells = [] ∨ I b) →
      (∀ i u, us[i]? = some u → cellH hp b (o + i) = some u ∧ u.oneCell' = true) → RepPL I hp cells us → (sp = none ∨ cap = 0) → RepP I hp (.sl cells n tight) (.slice (some ⟨b, o, sp⟩) n cap)
  | fn {f : FuncId} {a b : List AV} {va vb : List Value} : RepPL I hp a va → RepPL I hp b vb → RepP I hp (.fn f a b) (.func (.func f) va.toArray vb.toArray)
  | ifc {t : TypeId} {a : AV} {v : Value} : RepP I hp a v → RepP I hp (.ifc t a) (.iface t v)
  | agg {cs : List AV} {vs : List Value} : RepPL I hp cs vs → RepP I hp (.agg cs) (.agg vs.toArray)
  | tup {cs : List AV} {vs : List Value} : RepPL I hp cs vs → RepP I hp (.tup cs) (.tuple vs.toArray)
inductive RepPL (I : Nat → Prop) (hp : Array Obj) : List AV → List Value → Prop
  | nil : RepPL I hp [] []
  | cons {a : AV} {v : Value} {l : List AV} {vs : List Value} : RepP I hp a v → RepPL I hp l vs → RepPL I hp (a :: l) (v :: vs)
end

/-- Where the numbered blocks are: I: what nobody writes any more; β: a block's number in the machine; κ: how many cells it has there. -/
structure KS where
  I : Nat → Prop
  β : Nat → Nat
  κ : Nat → Nat
def AB.isVoid : AB → Bool
  | .void => true
  | _ => false
def AB.live : AB → Bool
  | .void => false
  | .dead => false
  | _ => true
def AB.wrt : AB → Bool
  | .cells _ i => i.wr
  | .map _ => true
  | .loop .. => true
  | _ => false
def verOf (c : List AV) (i : BI) : Nat := verA i c.length
def born (bs : List AB) (b ver : Nat) : Prop := ∃ x, bs[b]? = some x ∧ x.isVoid = false ∧ (x.live = true → ver ≤ x.ver)

mutual
inductive RepV (K : KS) (bs : List AB) (hp : Array Obj) : AV → Value → Prop
  | clean {a : AV} {v : Value} : RepP K.I hp a v → RepV K bs hp a v
  | ref {b off ver x : Nat} : born bs b ver → (∀ c i, bs[b]? = some (.cells c i) → ver = verOf c i → x = K.β b) → RepV K bs hp (.ref b off ver) (.pointer (some ⟨x, off, none⟩))
  | rsl {b off n : Nat} {cap : Option Nat} {ver x o cp : Nat} : born bs b ver → n ≤ cp → (∀ m, cap = some m → cp = m) → (cp = 0 ∨ o = off) → (∀ c i, bs[b]? = some (.cells c i) → ver = verOf c i →
      x = K.β b ∧ (cap = none → off + cp * i.sz ≤ K.κ b ∧ c.length ≤ off + cp * i.sz)) → RepV K bs hp (.rsl b off n cap ver) (.slice (some ⟨x, o, none⟩) n cp)
  | mref {b x : Nat} : born bs b 0 → (∀ es, bs[b]? = some (.map es) → x = K.β b) → RepV K bs hp (.mref b) (.map (some x))
  | yc {b x : Nat} : born bs b 0 → (∀ f t p a c s j, bs[b]? = some (.loop f t p a c s j) → x = K.β b) → RepV K bs hp (.yc b) (.func (.yield x) #[] #[])
  | fn {f : FuncId} {a b : List AV} {va vb : List Value} : RepVL K bs hp a va → RepVL K bs hp b vb → RepV K bs hp (.fn f a b) (.func (.func f) va.toArray vb.toArray)
  | ifc {t : TypeId} {a : AV} {v : Value} : RepV K bs hp a v → RepV K bs hp (.ifc t a) (.iface t v)
  | agg {cs : List AV} {vs : List Value} : RepVL K bs hp cs vs → RepV K bs hp (.agg cs) (.agg vs.toArray)
  | tup {cs : List AV} {vs : List Value} : RepVL K bs hp cs vs → RepV K bs hp (.tup cs) (.tuple vs.toArray)
inductive RepVL (K : KS) (bs : List AB) (hp : Array Obj) : List AV → List Value → Prop
  | nil : RepVL K bs hp [] []
  | cons {a : AV} {v : Value} {l : List AV} {vs : List Value} : RepV K bs hp a v → RepVL K bs hp l vs → RepVL K bs hp (a :: l) (v :: vs)
end

/-! Lists -/
section
variable {I : Nat → Prop} {hp : Array Obj}
theorem RepPL.len {l : List AV} {vs : List Value} (h : RepPL I hp l vs) : l.length = vs.length := by
  induction l generalizing vs with
  | nil => cases h; rfl
  | cons a l ih => cases h with
    | cons _ h => simp [ih h]
theorem RepPL.get {l : List AV} {vs : List Value} (h : RepPL I hp l vs) {i : Nat} {a : AV} (ha : l[i]? = some a) : ∃ v, vs[i]? = some v ∧ RepP I hp a v := by
  induction l generalizing vs i with
  | nil => simp at ha
  | cons b l ih => cases h with
    | cons h0 h =>
      cases i with
      | zero => simp at ha; subst ha; exact ⟨_, rfl, h0⟩
      | succ i => simp at ha; simpa using ih h ha
theorem RepPL.app {l m : List AV} {vs us : List Value} (h : RepPL I hp l vs) (k : RepPL I hp m us) : RepPL I hp (l ++ m) (vs ++ us) := by
  induction l generalizing vs with
  | nil => cases h; exact k
  | cons b l ih => cases h with
    | cons h0 h => exact .cons h0 (ih h)
theorem RepPL.take {l : List AV} {vs : List Value} (h : RepPL I hp l vs) (n : Nat) : RepPL I hp (l.take n) (vs.take n) := by
  induction l generalizing vs n with
  | nil => cases h; simp; exact .nil
  | cons b l ih => cases h with
    | cons h0 h => cases n with
      | zero => exact .nil
      | succ n => exact .cons h0 (ih h n)
theorem RepPL.drop {l : List AV} {vs : List Value} (h : RepPL I hp l vs) (n : Nat) : RepPL I hp (l.drop n) (vs.drop n) := by
  induction l generalizing vs n with
  | nil => cases h; simp; exact .nil
  | cons b l ih => cases h with
    | cons h0 h => cases n with
      | zero => exact .cons h0 h
      | succ n => simpa using ih h n
theorem RepPL.set {l : List AV} {vs : List Value} (h : RepPL I hp l vs) (n : Nat) {a : AV} {v : Value} (ha : RepP I hp a v) : RepPL I hp (l.set n a) (vs.set n v) := by
  induction l generalizing vs n with
  | nil => cases h; exact .nil
  | cons b l ih => cases h with
    | cons h0 h => cases n with
      | zero => exact .cons ha h
      | succ n => exact .cons h0 (ih h n)
theorem RepPL.rep (n : Nat) {a : AV} {v : Value} (ha : RepP I hp a v) : RepPL I hp (List.replicate n a) (List.replicate n v) := by
  induction n with
  | zero => exact .nil
  | succ n ih => exact .cons ha ih
theorem RepPL.erase {l : List AV} {vs : List Value} (h : RepPL I hp l vs) (n : Nat) : RepPL I hp (l.eraseIdx n) (vs.eraseIdx n) := by
  induction l generalizing vs n with
  | nil => cases h; exact .nil
  | cons b l ih => cases h with
    | cons h0 h => cases n with
      | zero => exact h
      | succ n => exact .cons h0 (ih h n)
end
section
variable {K : KS} {bs : List AB} {hp : Array Obj}
theorem RepVL.len {l : List AV} {vs : List Value} (h : RepVL K bs hp l vs) : l.length = vs.length := by
  induction l generalizing vs with
  | nil => cases h; rfl
  | cons a l ih => cases h with
    | cons _ h => simp [ih h]
theorem RepVL.get {l : List AV} {vs : List Value} (h : RepVL K bs hp l vs) {i : Nat} {a : AV} (ha : l[i]? = some a) : ∃ v, vs[i]? = some v ∧ RepV K bs hp a v := by
  induction l generalizing vs i with
  | nil => simp at ha
  | cons b l ih => cases h with
    | cons h0 h =>
      cases i with
      | zero => simp at ha; subst ha; exact ⟨_, rfl, h0⟩
      | succ i => simp at ha; simpa using ih h ha
theorem RepVL.app {l m : List AV} {vs us : List Value} (h : RepVL K bs hp l vs) (k : RepVL K bs hp m us) : RepVL K bs hp (l ++ m) (vs ++ us) := by
  induction l generalizing vs with
  | nil => cases h; exact k
  | cons b l ih => cases h with
    | cons h0 h => exact .cons h0 (ih h)
theorem RepVL.take {l : List AV} {vs : List Value} (h : RepVL K bs hp l vs) (n : Nat) : RepVL K bs hp (l.take n) (vs.take n) := by
  induction l generalizing vs n with
  | nil => cases h; simp; exact .nil
  | cons b l ih => cases h with
    | cons h0 h => cases n with
      | zero => exact .nil
      | succ n => exact .cons h0 (ih h n)
theorem RepVL.drop {l : List AV} {vs : List Value} (h : RepVL K bs hp l vs) (n : Nat) : RepVL K bs hp (l.drop n) (vs.drop n) := by
  induction l generalizing vs n with
  | nil => cases h; simp; exact .nil
  | cons b l ih => cases h with
    | cons h0 h => cases n with
      | zero => exact .cons h0 h
      | succ n => simpa using ih h n
theorem RepVL.set {l : List AV} {vs : List Value} (h : RepVL K bs hp l vs) (n : Nat) {a : AV} {v : Value} (ha : RepV K bs hp a v) : RepVL K bs hp (l.set n a) (vs.set n v) := by
  induction l generalizing vs n with
  | nil => cases h; exact .nil
  | cons b l ih => cases h with
    | cons h0 h => cases n with
      | zero => exact .cons ha h
      | succ n => exact .cons h0 (ih h n)
theorem RepVL.rep (n : Nat) {a : AV} {v : Value} (ha : RepV K bs hp a v) : RepVL K bs hp (List.replicate n a) (List.replicate n v) := by
  induction n with
  | zero => exact .nil
  | succ n ih => exact .cons ha ih
theorem RepVL.erase {l : List AV} {vs : List Value} (h : RepVL K bs hp l vs) (n : Nat) : RepVL K bs hp (l.eraseIdx n) (vs.eraseIdx n) := by
  induction l generalizing vs n with
  | nil => cases h; exact .nil
  | cons b l ih => cases h with
    | cons h0 h => cases n with
      | zero => exact h
      | succ n => exact .cons h0 (ih h n)
theorem RepVL.of_clean {l : List AV} {vs : List Value} (h : RepPL K.I hp l vs) : RepVL K bs hp l vs := by
  induction l generalizing vs with
  | nil => cases h; exact .nil
  | cons b l ih => cases h with
    | cons h0 h => exact .cons (.clean h0) (ih h)
theorem RepVL.map {α : Type} {f : α → AV} {g : α → Value} {l : List α} (h : ∀ x ∈ l, RepV K bs hp (f x) (g x)) : RepVL K bs hp (l.map f) (l.map g) := by
  induction l with
  | nil => exact .nil
  | cons a l ih => exact .cons (h a (by simp)) (ih fun x hx => h x (by simp [hx]))
end

/-! Memory-free values are memory-free. -/
mutual
theorem RepV.toP {K : KS} {bs : List AB} {hp : Array Obj} {a : AV} {v : Value} (h : RepV K bs hp a v) (hc : a.clean = true) : RepP K.I hp a v := by
  cases h with
  | clean h => exact h
  | ref _ _ => simp [AV.clean] at hc
  | rsl _ _ _ _ _ => simp [AV.clean] at hc
  | mref _ _ => simp [AV.clean] at hc
  | yc _ _ => simp [AV.clean] at hc
  | fn h1 h2 => simp [AV.clean] at hc; exact .fn (h1.toP hc.1) (h2.toP hc.2)
  | ifc h => simp [AV.clean] at hc; exact .ifc (h.toP hc)
  | agg h => simp [AV.clean] at hc; exact .agg (h.toP hc)
  | tup h => simp [AV.clean] at hc; exact .tup (h.toP hc)
theorem RepVL.toP {K : KS} {bs : List AB} {hp : Array Obj} {l : List AV} {vs : List Value} (h : RepVL K bs hp l vs) (hc : cleanL l = true) : RepPL K.I hp l vs := by
  cases h with
  | nil => exact .nil
  | cons h0 h => simp [cleanL] at hc; exact .cons (h0.toP hc.1) (h.toP hc.2)
end
mutual
theorem RepP.isClean {I : Nat → Prop} {hp : Array Obj} {a : AV} {v : Value} (h : RepP I hp a v) : a.clean = true := by
  cases h with
  | fn h1 h2 => simp [AV.clean, h1.isClean, h2.isClean]
  | ifc h => simp [AV.clean, h.isClean]
  | agg h => simp [AV.clean, h.isClean]
  | tup h => simp [AV.clean, h.isClean]
  | _ => simp [AV.clean]
theorem RepPL.isClean {I : Nat → Prop} {hp : Array Obj} {l : List AV} {vs : List Value} (h : RepPL I hp l vs) : cleanL l = true := by
  cases h with
  | nil => rfl
  | cons h0 h => simp [cleanL, h0.isClean, h.isClean]
end
mutual
theorem clean_top : ∀ a : AV, a.clean = true → a.top = 0
  | .fn _ a b, h => by simp [AV.clean] at h; simp [AV.top, cleanL_top a h.1, cleanL_top b h.2]
  | .ifc _ v, h => by simp [AV.clean] at h; simp [AV.top, clean_top v h]
  | .agg c, h => by simp [AV.clean] at h; simp [AV.top, cleanL_top c h]
  | .tup c, h => by simp [AV.clean] at h; simp [AV.top, cleanL_top c h]
  | .ref .., h => by simp [AV.clean] at h
  | .rsl .., h => by simp [AV.clean] at h
  | .mref .., h => by simp [AV.clean] at h
  | .yc .., h => by simp [AV.clean] at h
  | .hole, _ => rfl
  | .bool _, _ => rfl
  | .int .., _ => rfl
  | .str _, _ => rfl
  | .ptr0, _ => rfl
  | .sl0, _ => rfl
  | .map0, _ => rfl
  | .fn0, _ => rfl
  | .ifc0, _ => rfl
  | .vref .., _ => rfl
  | .sl .., _ => rfl
theorem cleanL_top : ∀ l : List AV, cleanL l = true → topL l = 0
  | [], _ => rfl
  | a :: l, h => by simp [cleanL] at h; simp [topL, clean_top a h.1, cleanL_top l h.2]
end
mutual
theorem und_iff (n : Nat) : ∀ a : AV, a.und n = true ↔ a.top ≤ n
  | .fn _ a b => by simp [AV.und, AV.top, undL_iff n a, undL_iff n b]; omega
  | .ifc _ v => by simp [AV.und, AV.top, und_iff n v]
  | .agg c => by simp [AV.und, AV.top, undL_iff n c]
  | .tup c => by simp [AV.und, AV.top, undL_iff n c]
  | .ref b .. => by simp [AV.und, AV.top]; omega
  | .rsl b .. => by simp [AV.und, AV.top]; omega
  | .mref b => by simp [AV.und, AV.top]; omega
  | .yc b => by simp [AV.und, AV.top]; omega
  | .hole => by simp [AV.und, AV.top]
  | .bool _ => by simp [AV.und, AV.top]
  | .int .. => by simp [AV.und, AV.top]
  | .str _ => by simp [AV.und, AV.top]
  | .ptr0 => by simp [AV.und, AV.top]
  | .sl0 => by simp [AV.und, AV.top]
  | .map0 => by simp [AV.und, AV.top]
  | .fn0 => by simp [AV.und, AV.top]
  | .ifc0 => by simp [AV.und, AV.top]
  | .vref .. => by simp [AV.und, AV.top]
  | .sl .. => by simp [AV.und, AV.top]
theorem undL_iff (n : Nat) : ∀ l : List AV, undL n l = true ↔ topL l ≤ n
  | [] => by simp [undL, topL]
  | a :: l => by simp [undL, topL, und_iff n a, undL_iff n l]; omega
end
theorem top_le_topL {a : AV} {l : List AV} (h : a ∈ l) : a.top ≤ topL l := by
  induction l with
  | nil => simp at h
  | cons b l ih =>
    simp only [topL]
    rcases List.mem_cons.1 h with rfl | h
    · omega
    · have := ih h; omega
theorem topL_le {l : List AV} {n : Nat} (h : ∀ a ∈ l, a.top ≤ n) : topL l ≤ n := by
  induction l with
  | nil => simp [topL]
  | cons b l ih =>
    simp only [topL]
    have h0 := h b (by simp)
    have h1 := ih fun a ha => h a (by simp [ha])
    omega
theorem born_lt {bs : List AB} {b ver : Nat} (h : born bs b ver) : b < bs.length := by
  obtain ⟨x, hx, _⟩ := h
  exact (List.getElem?_eq_some_iff.1 hx).1
mutual
theorem RepV.top_le {K : KS} {bs : List AB} {hp : Array Obj} {a : AV} {v : Value} (h : RepV K bs hp a v) : a.top ≤ bs.length := by
  cases h with
  | clean h => rw [clean_top _ h.isClean]; omega
  | ref h _ => have := born_lt h; simp [AV.top]; omega
  | rsl h _ _ _ _ => have := born_lt h; simp [AV.top]; omega
  | mref h _ => have := born_lt h; simp [AV.top]; omega
  | yc h _ => have := born_lt h; simp [AV.top]; omega
  | fn h1 h2 => have := h1.top_le; have := h2.top_le; simp [AV.top]; omega
  | ifc h => have := h.top_le; simpa [AV.top] using this
  | agg h => have := h.top_le; simpa [AV.top] using this
  | tup h => have := h.top_le; simpa [AV.top] using this
theorem RepVL.top_le {K : KS} {bs : List AB} {hp : Array Obj} {l : List AV} {vs : List Value} (h : RepVL K bs hp l vs) : topL l ≤ bs.length := by
  cases h with
  | nil => simp [topL]
  | cons h0 h => have := h0.top_le; have := h.top_le; simp [topL]; omega
end

/-! From one state to a later one. -/
def Img (K : KS) (bs : List AB) (c : Nat) : Prop := ∃ (b : Nat) (x : AB), bs[b]? = some x ∧ x.wrt = true ∧ K.β b = c
def kin : AB → AB → Prop
  | .cells c i, .cells d j => i.opn = j.opn ∧ i.sz = j.sz ∧ (i.opn = false → c.length = d.length)
  | .map _, .map _ => True
  | .loop .., .loop .. => True
  | _, _ => False
structure Tr (K : KS) (bs : List AB) (hp : Array Obj) (K' : KS) (bs' : List AB) (hp' : Array Obj) : Prop where
  size : hp.size ≤ hp'.size
  keep : ∀ c, c < hp.size → ¬ Img K bs c → hp'[c]? = hp[c]?
  imono : ∀ c, K.I c → K'.I c
  inew : ∀ c, K'.I c → K.I c ∨ hp.size ≤ c ∨ Img K bs c
  img : ∀ c, Img K' bs' c → Img K bs c ∨ hp.size ≤ c
  le : ∀ b x', b < bs.length → bs'[b]? = some x' → x'.live = true → ∃ x, bs[b]? = some x ∧ (x.isVoid = true ∨ (x.live = true ∧ kin x x' ∧ x.ver ≤ x'.ver ∧ (x'.ver = x.ver → K'.β b = K.β b ∧ K'.κ b = K.κ b)))
  void : ∀ b x', b < bs.length → bs'[b]? = some x' → x'.isVoid = true → ∃ x, bs[b]? = some x ∧ x.isVoid = true
  len : bs.length ≤ bs'.length
/-- No cell of a row of n is frozen. -/
def Unfr (n lo hi : Nat) : Prop := lo = hi ∨ (n ≤ lo ∧ lo ≤ hi)
theorem Unfr.not {n lo hi : Nat} (h : Unfr n lo hi) : ∀ j, j < n → ¬ (lo ≤ j ∧ j < hi) := by
  intro j hj
  unfold Unfr at h
  omega
/-- What the slots of an activation stand for. -/
def RegR (K : KS) (bs : List AB) (hp : Array Obj) (r : RG) (a : Array Value) : Prop := a.size = r.n ∧ ∀ i, RepV K bs hp (r.get i) (a.getD i undef)
/-- What a block stands for; k: how many cells it has in the machine. -/
def ObjR (K : KS) (bs : List AB) (hp : Array Obj) (k : Nat) : AB → Obj → Prop
  | .cells c i, o => ∃ (cc : Array Value) (e : TypeId) (lo hi : Nat) (us : List Value), o = .cells cc e (lo, hi) ∧ Unfr cc.size lo hi ∧ cc.size = k ∧
      (∀ (j : Nat) (u : Value), us[j]? = some u → cc[j]? = some u ∧ u.oneCell' = true) ∧ RepVL K bs hp c us ∧ (i.cl = true → cleanL c = true)
  | .map es, o => ∃ ces cl, o = .map ces cl ∧ RepVL K bs hp (es.map (·.1)) (ces.toList.map (·.key)) ∧ RepVL K bs hp (es.map (·.2)) (ces.toList.map (·.val)) ∧ (∀ e ∈ ces.toList, e.born < cl)
  | .loop _ t p a c s j, o => ∃ l : Loop, o = .loop l ∧ l.state = s ∧ l.pending = j ∧ l.params.toList = p ∧ l.assign = a ∧ l.body = c ∧ RegR K bs hp t l.tmps
  | _, _ => True
structure HR (K : KS) (bs : List AB) (hp : Array Obj) : Prop where
  inj : ∀ b b' x x', bs[b]? = some x → bs[b']? = some x' → x.live = true → x'.live = true → K.β b = K.β b' → b = b'
  obj : ∀ b x, bs[b]? = some x → x.live = true → ∃ o, hp[K.β b]? = some o ∧ ObjR K bs hp (K.κ b) x o
  ilt : ∀ c, K.I c → c < hp.size
  wr : ∀ b x, bs[b]? = some x → x.wrt = true → ¬ K.I (K.β b)
  nwr : ∀ b c i, bs[b]? = some (.cells c i) → i.wr = false → K.I (K.β b) ∧ i.cl = true
theorem HR.lt {K : KS} {bs : List AB} {hp : Array Obj} (h : HR K bs hp) : ∀ b x, bs[b]? = some x → x.live = true → K.β b < hp.size := fun b x hx hl => by
  obtain ⟨o, ho, _⟩ := h.obj b x hx hl
  exact (Array.getElem?_eq_some_iff.1 ho).1

theorem wrt_live {x : AB} (h : x.wrt = true) : x.live = true := by cases x <;> simp_all [AB.wrt, AB.live]
theorem ver_cells {c : List AV} {i : BI} : (AB.cells c i).ver = verOf c i := rfl
theorem HR.img_lt {K : KS} {bs : List AB} {hp : Array Obj} (h : HR K bs hp) {c : Nat} (hc : Img K bs c) : c < hp.size := by
  obtain ⟨b, x, hx, hw, rfl⟩ := hc
  exact h.lt b x hx (wrt_live hw)
theorem HR.img_not {K : KS} {bs : List AB} {hp : Array Obj} (h : HR K bs hp) {c : Nat} (hc : Img K bs c) : ¬ K.I c := by
  obtain ⟨b, x, hx, hw, rfl⟩ := hc
  exact h.wr b x hx hw
theorem kin_refl {x : AB} (h : x.live = true) : kin x x := by cases x <;> simp_all [AB.live, kin]
theorem Tr.refl (K : KS) (bs : List AB) (hp : Array Obj) : Tr K bs hp K bs hp :=
  ⟨Nat.le_refl _, fun _ _ _ => rfl, fun _ h => h, fun _ h => .inl h, fun _ h => .inl h, fun _ x _ h hl => ⟨x, h, .inr ⟨hl, kin_refl hl, Nat.le_refl _, fun _ => ⟨rfl, rfl⟩⟩⟩, fun _ x _ h hv => ⟨x, h, hv⟩, Nat.le_refl _⟩
theorem kin_trans {x y z : AB} (h : kin x y) (k : kin y z) : kin x z := by
  cases x <;> cases y <;> cases z <;> simp_all [kin]
theorem void_not_live {x : AB} (h : x.isVoid = true) : x.live = false := by cases x <;> simp_all [AB.isVoid, AB.live]
theorem Tr.trans {K K' K'' : KS} {bs bs' bs'' : List AB} {hp hp' hp'' : Array Obj} (h : Tr K bs hp K' bs' hp') (k : Tr K' bs' hp' K'' bs'' hp'') : Tr K bs hp K'' bs'' hp'' where
  size := Nat.le_trans h.size k.size
  keep c hc hn := by
    rw [k.keep c (Nat.lt_of_lt_of_le hc h.size) (fun hi => by
      rcases h.img c hi with h1 | h1
      · exact hn h1
      · omega), h.keep c hc hn]
  imono c hc := k.imono c (h.imono c hc)
  inew c hc := by
    rcases k.inew c hc with h1 | h1 | h1
    · exact h.inew c h1
    · exact .inr (.inl (Nat.le_trans h.size h1))
    · rcases h.img c h1 with h2 | h2
      · exact .inr (.inr h2)
      · exact .inr (.inl h2)
  img c hc := by
    rcases k.img c hc with h1 | h1
    · exact h.img c h1
    · exact .inr (Nat.le_trans h.size h1)
  le b x'' hb hx hl := by
    obtain ⟨x', hx', h1⟩ := k.le b x'' (Nat.lt_of_lt_of_le hb h.len) hx hl
    rcases h1 with h1 | ⟨hl', hk, hv, he⟩
    · obtain ⟨x, hx0, hv0⟩ := h.void b x' hb hx' h1
      exact ⟨x, hx0, .inl hv0⟩
    · obtain ⟨x, hx0, h2⟩ := h.le b x' hb hx' hl'
      rcases h2 with h2 | ⟨hl0, hk0, hv0, he0⟩
      · exact ⟨x, hx0, .inl h2⟩
      · refine ⟨x, hx0, .inr ⟨hl0, kin_trans hk0 hk, Nat.le_trans hv0 hv, fun e => ?_⟩⟩
        have e1 : x'.ver = x.ver := by omega
        have e2 : x''.ver = x'.ver := by omega
        exact ⟨(he e2).1.trans (he0 e1).1, (he e2).2.trans (he0 e1).2⟩
  void b x'' hb hx hv := by
    obtain ⟨x', hx', hv'⟩ := k.void b x'' (Nat.lt_of_lt_of_le hb h.len) hx hv
    exact h.void b x' hb hx' hv'
  len := Nat.le_trans h.len k.len

mutual
theorem RepP.mono {I I' : Nat → Prop} {hp hp' : Array Obj} (hI : ∀ c, I c → I' c) (hh : ∀ c, I c → hp'[c]? = hp[c]?) {a : AV} {v : Value} (h : RepP I hp a v) : RepP I' hp' a v := by
  cases h with
  | hole v => exact .hole v
  | bool b => exact .bool b
  | int k n => exact .int k n
  | str s => exact .str s
  | ptr0 => exact .ptr0
  | sl0 => exact .sl0
  | map0 => exact .map0
  | fn0 => exact .fn0
  | ifc0 => exact .ifc0
  | vref h3 h4 h5 =>
    refine .vref (h3.imp id (hI _)) (fun i u hu => ⟨?_, (h4 i u hu).2⟩) (h5.mono hI hh)
    rcases h3 with h3 | h3
    · subst h3
      cases h5
      simp at hu
    · rw [← (h4 i u hu).1]; unfold cellH; rw [hh _ h3]
  | sl h1 h2 h3 h4 h5 h6 =>
    refine .sl h1 h2 (h3.imp id (hI _)) (fun i u hu => ⟨?_, (h4 i u hu).2⟩) (h5.mono hI hh) h6
    rcases h3 with h3 | h3
    · subst h3
      cases h5
      simp at hu
    · rw [← (h4 i u hu).1]; unfold cellH; rw [hh _ h3]
  | fn h1 h2 => exact .fn (h1.mono hI hh) (h2.mono hI hh)
  | ifc h => exact .ifc (h.mono hI hh)
  | agg h => exact .agg (h.mono hI hh)
  | tup h => exact .tup (h.mono hI hh)
theorem RepPL.mono {I I' : Nat → Prop} {hp hp' : Array Obj} (hI : ∀ c, I c → I' c) (hh : ∀ c, I c → hp'[c]? = hp[c]?) {l : List AV} {vs : List Value} (h : RepPL I hp l vs) : RepPL I' hp' l vs := by
  cases h with
  | nil => exact .nil
  | cons h0 h => exact .cons (h0.mono hI hh) (h.mono hI hh)
end

/-- What a later state owes an earlier one's values. -/
structure Lat (K : KS) (bs : List AB) (hp : Array Obj) (K' : KS) (bs' : List AB) (hp' : Array Obj) : Prop where
  imono : ∀ c, K.I c → K'.I c
  same : ∀ c, K.I c → hp'[c]? = hp[c]?
  born : ∀ b ver, born bs b ver → born bs' b ver
  cells : ∀ b ver, Ab.born bs b ver → ∀ c' i', bs'[b]? = some (.cells c' i') → ver = verOf c' i' → ∃ c i, bs[b]? = some (.cells c i) ∧ ver = verOf c i ∧ i.sz = i'.sz ∧ c.length = c'.length ∧ i.opn = i'.opn ∧ K'.β b = K.β b ∧ K'.κ b = K.κ b
  map : ∀ b, Ab.born bs b 0 → ∀ es', bs'[b]? = some (.map es') → ∃ es, bs[b]? = some (.map es) ∧ K'.β b = K.β b
  loop : ∀ b, Ab.born bs b 0 → ∀ f t p a c s j, bs'[b]? = some (.loop f t p a c s j) → ∃ f t p a c s j, bs[b]? = some (.loop f t p a c s j) ∧ K'.β b = K.β b

theorem Tr.lat {K K' : KS} {bs bs' : List AB} {hp hp' : Array Obj} (h : Tr K bs hp K' bs' hp') (hr : HR K bs hp) : Lat K bs hp K' bs' hp' where
  imono := h.imono
  same c hc := h.keep c (hr.ilt c hc) (fun hi => hr.img_not hi hc)
  born b ver hb := by
    obtain ⟨x, hx, hv, hl⟩ := hb
    have hlt := (List.getElem?_eq_some_iff.1 hx).1
    have hlt' := Nat.lt_of_lt_of_le hlt h.len
    refine ⟨bs'[b], List.getElem?_eq_getElem hlt', ?_, fun hl' => ?_⟩
    · cases hv' : bs'[b].isVoid with
      | false => rfl
      | true =>
        obtain ⟨x0, hx0, hv0⟩ := h.void b _ hlt (List.getElem?_eq_getElem hlt') hv'
        rw [hx] at hx0; cases hx0; rw [hv] at hv0; cases hv0
    · obtain ⟨x0, hx0, h1⟩ := h.le b _ hlt (List.getElem?_eq_getElem hlt') hl'
      rw [hx] at hx0; cases hx0
      rcases h1 with h1 | ⟨h1, _, h2, _⟩
      · rw [hv] at h1; cases h1
      · exact Nat.le_trans (hl h1) h2
  cells b ver hb c' i' hc he := by
    obtain ⟨x, hx, hv, hl⟩ := hb
    have hlt := (List.getElem?_eq_some_iff.1 hx).1
    obtain ⟨x0, hx0, h1⟩ := h.le b _ hlt hc rfl
    rw [hx] at hx0; cases hx0
    rcases h1 with h1 | ⟨h1, hk, h2, h3⟩
    · rw [hv] at h1; cases h1
    · cases x with
      | cells c i =>
        obtain ⟨hk1, hk2, hk3⟩ : i.opn = i'.opn ∧ i.sz = i'.sz ∧ (i.opn = false → c.length = c'.length) := hk
        have e : verOf c' i' = verOf c i := by
          have h4 := hl h1
          rw [ver_cells] at h2 h4
          have h2' : verOf c i ≤ verOf c' i' := h2
          omega
        refine ⟨c, i, hx, he.trans e, hk2, ?_, hk1, h3 e⟩
        cases ho : i.opn with
        | false => exact hk3 ho
        | true =>
          unfold verOf verA at e
          rw [← hk1, ho] at e
          simp at e
          omega
      | _ => simp [kin] at hk
  map b hb es' he := by
    obtain ⟨x, hx, hv, hl⟩ := hb
    have hlt := (List.getElem?_eq_some_iff.1 hx).1
    obtain ⟨x0, hx0, h1⟩ := h.le b _ hlt he rfl
    rw [hx] at hx0; cases hx0
    rcases h1 with h1 | ⟨h1, hk, h2, h3⟩
    · rw [hv] at h1; cases h1
    · cases x with
      | map es => exact ⟨es, hx, (h3 rfl).1⟩
      | _ => simp [kin] at hk
  loop b hb f t p a c s j he := by
    obtain ⟨x, hx, hv, hl⟩ := hb
    have hlt := (List.getElem?_eq_some_iff.1 hx).1
    obtain ⟨x0, hx0, h1⟩ := h.le b _ hlt he rfl
    rw [hx] at hx0; cases hx0
    rcases h1 with h1 | ⟨h1, hk, h2, h3⟩
    · rw [hv] at h1; cases h1
    · cases x with
      | loop f0 t0 p0 a0 c0 s0 j0 => exact ⟨_, _, _, _, _, _, _, hx, (h3 rfl).1⟩
      | _ => simp [kin] at hk
mutual
theorem RepV.mono {K K' : KS} {bs bs' : List AB} {hp hp' : Array Obj} (L : Lat K bs hp K' bs' hp') {a : AV} {v : Value} (h : RepV K bs hp a v) : RepV K' bs' hp' a v := by
  cases h with
  | clean h => exact .clean (h.mono L.imono L.same)
  | ref hb hv =>
    refine .ref (L.born _ _ hb) fun c' i' hc he => ?_
    obtain ⟨c, i, hc0, he0, _, _, _, hβ, _⟩ := L.cells _ _ hb c' i' hc he
    rw [hβ]; exact hv c i hc0 he0
  | rsl hb h2 h3 h5 hv =>
    refine .rsl (L.born _ _ hb) h2 h3 h5 fun c' i' hc he => ?_
    obtain ⟨c, i, hc0, he0, hs, hlen, ho, hβ, hκ⟩ := L.cells _ _ hb c' i' hc he
    obtain ⟨h1, h4⟩ := hv c i hc0 he0
    rw [hβ, hκ, ← hs, ← hlen]
    exact ⟨h1, h4⟩
  | mref hb hv =>
    refine .mref (L.born _ _ hb) fun es' he => ?_
    obtain ⟨es, h1, h2⟩ := L.map _ hb es' he
    rw [h2]; exact hv es h1
  | yc hb hv =>
    refine .yc (L.born _ _ hb) fun f t p a c s j he => ?_
    obtain ⟨f, t, p, a, c, s, j, h1, h2⟩ := L.loop _ hb f t p a c s j he
    rw [h2]; exact hv _ _ _ _ _ _ _ h1
  | fn h1 h2 => exact .fn (h1.mono L) (h2.mono L)
  | ifc h => exact .ifc (h.mono L)
  | agg h => exact .agg (h.mono L)
  | tup h => exact .tup (h.mono L)
theorem RepVL.mono {K K' : KS} {bs bs' : List AB} {hp hp' : Array Obj} (L : Lat K bs hp K' bs' hp') {l : List AV} {vs : List Value} (h : RepVL K bs hp l vs) : RepVL K' bs' hp' l vs := by
  cases h with
  | nil => exact .nil
  | cons h0 h => exact .cons (h0.mono L) (h.mono L)
end
theorem RegR.mono {K K' : KS} {bs bs' : List AB} {hp hp' : Array Obj} (L : Lat K bs hp K' bs' hp') {r : RG} {a : Array Value} (h : RegR K bs hp r a) : RegR K' bs' hp' r a := ⟨h.1, fun i => (h.2 i).mono L⟩
theorem ObjR.mono {K K' : KS} {bs bs' : List AB} {hp hp' : Array Obj} (L : Lat K bs hp K' bs' hp') {k : Nat} {x : AB} {o : Obj} (h : ObjR K bs hp k x o) : ObjR K' bs' hp' k x o := by
  cases x with
  | cells c i =>
    obtain ⟨cc, e, lo, hi, us, h1, h2, h3, h4, h5, h6⟩ := h
    exact ⟨cc, e, lo, hi, us, h1, h2, h3, h4, h5.mono L, h6⟩
  | map es =>
    obtain ⟨ces, cl, h1, h2, h3, h4⟩ := h
    exact ⟨ces, cl, h1, h2.mono L, h3.mono L, h4⟩
  | loop f t p a c s j =>
    obtain ⟨l, h1, h2, h3, h4, h5, h6, h7⟩ := h
    exact ⟨l, h1, h2, h3, h4, h5, h6, h7.mono L⟩
  | _ => simp only [ObjR]

def updN (f : Nat → Nat) (b a : Nat) : Nat → Nat := fun x => if x = b then a else f x
theorem updN_same (f : Nat → Nat) (b a : Nat) : updN f b a b = a := by simp [updN]
theorem updN_other (f : Nat → Nat) (b a : Nat) {x : Nat} (h : x ≠ b) : updN f b a x = f x := by simp [updN, h]
/-- One block is new, or turns. -/
structure Upd (K : KS) (bs : List AB) (hp : Array Obj) (nid a k : Nat) (x' : AB) (o' : Obj) (bs' : List AB) (hp' : Array Obj) : Prop where
  at_ : bs'[nid]? = some x'
  other : ∀ b, b ≠ nid → bs'[b]? = bs[b]?
  size : hp.size ≤ hp'.size
  here : hp'[a]? = some o'
  there : ∀ c, c < hp.size → c ≠ a → hp'[c]? = hp[c]?
  old : nid = bs.length ∨ bs[nid]? = some .void ∨ ∃ x, bs[nid]? = some x ∧ x.wrt = true ∧ kin x x' ∧ x.ver ≤ x'.ver ∧ (x'.ver = x.ver → a = K.β nid ∧ k = K.κ nid)
  place : hp.size ≤ a ∨ (a = K.β nid ∧ ∃ x, bs[nid]? = some x ∧ x.wrt = true)
  live : x'.live = true
  wrt : x'.wrt = true
  obj : ObjR K bs hp k x' o'
section
variable {K : KS} {bs bs' : List AB} {hp hp' : Array Obj} {nid a k : Nat} {x' : AB} {o' : Obj}
theorem Upd.lt (u : Upd K bs hp nid a k x' o' bs' hp') : nid < bs'.length := (List.getElem?_eq_some_iff.1 u.at_).1
theorem Upd.len (u : Upd K bs hp nid a k x' o' bs' hp') : bs.length ≤ bs'.length := by
  have h1 := u.lt
  rcases Nat.lt_or_ge bs'.length bs.length with h | h
  · exfalso
    have h2 := u.other bs'.length (by omega)
    rw [List.getElem?_eq_none (Nat.le_refl _), List.getElem?_eq_getElem h] at h2
    cases h2
  · exact h
theorem Upd.tr (u : Upd K bs hp nid a k x' o' bs' hp') (_hr : HR K bs hp) : Tr K bs hp { I := K.I, β := updN K.β nid a, κ := updN K.κ nid k } bs' hp' where
  size := u.size
  keep c hc hn := by
    refine u.there c hc fun e => hn ?_
    rcases u.place with h | ⟨h, x, hx, hw⟩
    · omega
    · exact ⟨nid, x, hx, hw, by rw [e, h]⟩
  imono c hc := hc
  inew c hc := .inl hc
  img c hc := by
    obtain ⟨b, x, hx, hw, he⟩ := hc
    by_cases hb : b = nid
    · subst hb
      have he : updN K.β b a b = c := he
      rw [updN_same] at he
      rcases u.place with h | ⟨h, y, hy, hyw⟩
      · exact .inr (he ▸ h)
      · exact .inl ⟨b, y, hy, hyw, by rw [← h, he]⟩
    · have he : updN K.β nid a b = c := he
      rw [updN_other _ _ _ hb] at he
      exact .inl ⟨b, x, by rw [← u.other b hb]; exact hx, hw, he⟩
  le b y hb hy hl := by
    by_cases h : b = nid
    · subst h
      rw [u.at_] at hy; cases hy
      rcases u.old with h | h | ⟨x, hx, hw, hk, hv, he⟩
      · omega
      · exact ⟨.void, h, .inl rfl⟩
      · exact ⟨x, hx, .inr ⟨wrt_live hw, hk, hv, fun e => by dsimp only; rw [updN_same, updN_same]; exact he e⟩⟩
    · rw [u.other b h] at hy
      exact ⟨y, hy, .inr ⟨hl, kin_refl hl, Nat.le_refl _, fun _ => by dsimp only; rw [updN_other _ _ _ h, updN_other _ _ _ h]; exact ⟨rfl, rfl⟩⟩⟩
  void b y hb hy hv := by
    by_cases h : b = nid
    · subst h
      rw [u.at_] at hy; cases hy
      have := u.live
      rw [void_not_live hv] at this; cases this
    · rw [u.other b h] at hy
      exact ⟨y, hy, hv⟩
  len := u.len
theorem Upd.hr (u : Upd K bs hp nid a k x' o' bs' hp') (hr : HR K bs hp) : HR { I := K.I, β := updN K.β nid a, κ := updN K.κ nid k } bs' hp' := by
  have L := (u.tr hr).lat hr
  have fresh : ∀ b x, b ≠ nid → bs[b]? = some x → x.live = true → K.β b ≠ a := by
    intro b x hb hx hl e
    rcases u.place with h | ⟨h, y, hy, hyw⟩
    · have := hr.lt b x hx hl; omega
    · exact hb (hr.inj b nid x y hx hy hl (wrt_live hyw) (by rw [e, h]))
  constructor
  · intro b b' x y hx hy hl hl' he
    dsimp only at he
    by_cases hb : b = nid
    · by_cases hb' : b' = nid
      · omega
      · exfalso
        subst hb
        rw [updN_same, updN_other _ _ _ hb'] at he
        rw [u.other b' hb'] at hy
        exact fresh b' y hb' hy hl' he.symm
    · by_cases hb' : b' = nid
      · exfalso
        subst hb'
        rw [updN_same, updN_other _ _ _ hb] at he
        rw [u.other b hb] at hx
        exact fresh b x hb hx hl he
      · rw [updN_other _ _ _ hb, updN_other _ _ _ hb'] at he
        rw [u.other b hb] at hx
        rw [u.other b' hb'] at hy
        exact hr.inj b b' x y hx hy hl hl' he
  · intro b x hx hl
    dsimp only
    by_cases hb : b = nid
    · subst hb
      rw [u.at_] at hx; cases hx
      rw [updN_same, updN_same]
      exact ⟨o', u.here, u.obj.mono L⟩
    · rw [u.other b hb] at hx
      rw [updN_other _ _ _ hb, updN_other _ _ _ hb]
      obtain ⟨o, ho, hR⟩ := hr.obj b x hx hl
      exact ⟨o, by rw [u.there _ (hr.lt b x hx hl) (fresh b x hb hx hl)]; exact ho, hR.mono L⟩
  · exact fun c hc => Nat.lt_of_lt_of_le (hr.ilt c hc) u.size
  · intro b x hx hw hI
    dsimp only at hI
    by_cases hb : b = nid
    · subst hb
      rw [updN_same] at hI
      rcases u.place with h | ⟨h, y, hy, hyw⟩
      · have := hr.ilt _ hI; omega
      · exact hr.wr b y hy hyw (h ▸ hI)
    · rw [updN_other _ _ _ hb] at hI
      rw [u.other b hb] at hx
      exact hr.wr b x hx hw hI
  · intro b c i hx hw
    by_cases hb : b = nid
    · subst hb
      rw [u.at_] at hx; cases hx
      have := u.wrt
      simp [AB.wrt, hw] at this
    · dsimp only
      rw [updN_other _ _ _ hb]
      rw [u.other b hb] at hx
      exact hr.nwr b c i hx hw
end

/-! Blocks that go. -/
mutual
theorem RepV.near {K : KS} {bs bs' : List AB} {hp : Array Obj} {m : Nat} (hb : ∀ b, b < m → bs'[b]? = bs[b]?) {a : AV} {v : Value} (h : RepV K bs hp a v) (ht : a.top ≤ m) : RepV K bs' hp a v := by
  cases h with
  | clean h => exact .clean h
  | ref h1 h2 =>
    simp only [AV.top] at ht
    refine .ref ?_ fun c i hc => h2 c i (by rw [← hb _ ht]; exact hc)
    obtain ⟨x, hx, hr⟩ := h1
    exact ⟨x, by rw [hb _ ht]; exact hx, hr⟩
  | rsl h1 g1 g2 g3 h2 =>
    simp only [AV.top] at ht
    refine .rsl ?_ g1 g2 g3 fun c i hc => h2 c i (by rw [← hb _ ht]; exact hc)
    obtain ⟨x, hx, hr⟩ := h1
    exact ⟨x, by rw [hb _ ht]; exact hx, hr⟩
  | mref h1 h2 =>
    simp only [AV.top] at ht
    refine .mref ?_ fun es hc => h2 es (by rw [← hb _ ht]; exact hc)
    obtain ⟨x, hx, hr⟩ := h1
    exact ⟨x, by rw [hb _ ht]; exact hx, hr⟩
  | yc h1 h2 =>
    simp only [AV.top] at ht
    refine .yc ?_ fun f t p a c s j hc => h2 f t p a c s j (by rw [← hb _ ht]; exact hc)
    obtain ⟨x, hx, hr⟩ := h1
    exact ⟨x, by rw [hb _ ht]; exact hx, hr⟩
  | fn h1 h2 =>
    simp only [AV.top] at ht
    exact .fn (h1.near hb (by omega)) (h2.near hb (by omega))
  | ifc h => exact .ifc (h.near hb (by simpa [AV.top] using ht))
  | agg h => exact .agg (h.near hb (by simpa [AV.top] using ht))
  | tup h => exact .tup (h.near hb (by simpa [AV.top] using ht))
theorem RepVL.near {K : KS} {bs bs' : List AB} {hp : Array Obj} {m : Nat} (hb : ∀ b, b < m → bs'[b]? = bs[b]?) {l : List AV} {vs : List Value} (h : RepVL K bs hp l vs) (ht : topL l ≤ m) : RepVL K bs' hp l vs := by
  cases h with
  | nil => exact .nil
  | cons h0 h =>
    simp only [topL] at ht
    exact .cons (h0.near hb (by omega)) (h.near hb (by omega))
end
theorem RT.get_top : ∀ (t : RT) (n : Nat), (t.get n).top ≤ t.top
  | .leaf, _ => by simp [RT.get, AV.top]
  | .node v l r, n => by
    have h1 := RT.get_top l (n / 2)
    have h2 := RT.get_top r (n / 2)
    simp only [RT.get, RT.top]
    cases Nat.beq n 1 <;> cases Nat.beq (n % 2) 0 <;> simp only [cond_true, cond_false] <;> omega
theorem RG.get_top (r : RG) (i : Nat) : (r.get i).top ≤ r.t.top := RT.get_top _ _
theorem RegR.near {K : KS} {bs bs' : List AB} {hp : Array Obj} {m : Nat} (hb : ∀ b, b < m → bs'[b]? = bs[b]?) {r : RG} {a : Array Value} (h : RegR K bs hp r a) (ht : r.t.top ≤ m) : RegR K bs' hp r a :=
  ⟨h.1, fun i => (h.2 i).near hb (Nat.le_trans (RG.get_top r i) ht)⟩
/-- Which older blocks name younger ones is told. -/
def EscR (h : H) : Prop := ∀ b x, h.bs[b]? = some x → x.top ≤ b + 1 ∨ ∃ e ∈ h.esc, e.1 = b ∧ x.top ≤ e.2
theorem ObjR.near {K : KS} {bs bs' : List AB} {hp : Array Obj} {m : Nat} (hb : ∀ b, b < m → bs'[b]? = bs[b]?) {k : Nat} {x : AB} {o : Obj} (h : ObjR K bs hp k x o) (ht : x.top ≤ m) : ObjR K bs' hp k x o := by
  cases x with
  | cells c i =>
    obtain ⟨cc, e, lo, hi, us, h1, h2, h3, h4, h5, h6⟩ := h
    refine ⟨cc, e, lo, hi, us, h1, h2, h3, h4, h5.near hb ?_, h6⟩
    simp only [AB.top] at ht
    cases hc : i.cl with
    | true => rw [cleanL_top _ (h6 hc)]; omega
    | false => simpa [hc] using ht
  | map es =>
    obtain ⟨ces, cl, h1, h2, h3, h4⟩ := h
    simp only [AB.top] at ht
    exact ⟨ces, cl, h1, h2.near hb (by omega), h3.near hb (by omega), h4⟩
  | loop f t p a c s j =>
    obtain ⟨l, h1, h2, h3, h4, h5, h6, h7⟩ := h
    exact ⟨l, h1, h2, h3, h4, h5, h6, h7.near hb ht⟩
  | _ => simp only [ObjR]
theorem escOk_top {h : H} {m : Nat} (he : EscR h) (hk : escOk m h.esc = true) {b : Nat} {x : AB} (hx : h.bs[b]? = some x) (hb : b < m) : x.top ≤ m := by
  rcases he b x hx with h1 | ⟨e, h1, h2, h3⟩
  · omega
  · unfold escOk at hk
    have := List.all_eq_true.1 hk e h1
    simp at this
    omega
theorem take_get {α : Type} {l : List α} {m b : Nat} {x : α} (h : (l.take m)[b]? = some x) : b < m ∧ l[b]? = some x := by
  rw [List.getElem?_take] at h
  split at h
  · exact ⟨‹_›, h⟩
  · cases h
theorem HR.cut {K : KS} {h : H} {hp : Array Obj} {m : Nat} (hr : HR K h.bs hp) (he : EscR h) (hk : escOk m h.esc = true) : HR K (h.cut m).bs hp ∧ EscR (h.cut m) := by
  have hb : ∀ b, b < m → (h.bs.take m)[b]? = h.bs[b]? := fun b hb => by rw [List.getElem?_take, if_pos hb]
  refine ⟨⟨?_, ?_, hr.ilt, ?_, ?_⟩, ?_⟩
  · intro b b' x x' hx hx'
    exact hr.inj b b' x x' (take_get hx).2 (take_get hx').2
  · intro b x hx hl
    obtain ⟨hlt, hx⟩ := take_get hx
    obtain ⟨o, ho, hR⟩ := hr.obj b x hx hl
    exact ⟨o, ho, hR.near hb (escOk_top he hk hx hlt)⟩
  · intro b x hx
    exact hr.wr b x (take_get hx).2
  · intro b c i hx
    exact hr.nwr b c i (take_get hx).2
  · intro b x hx
    obtain ⟨hlt, hx⟩ := take_get hx
    rcases he b x hx with h1 | ⟨e, h1, h2, h3⟩
    · exact .inl h1
    · refine .inr ⟨e, ?_, h2, h3⟩
      show e ∈ escCut m h.esc
      unfold escCut
      exact List.mem_filter.2 ⟨h1, by simp; omega⟩
theorem Tr.cut {K K' : KS} {bs bs' : List AB} {hp hp' : Array Obj} (h : Tr K bs hp K' bs' hp') {m : Nat} (hm : bs.length ≤ m) : Tr K bs hp K' (bs'.take m) hp' where
  size := h.size
  keep := h.keep
  imono := h.imono
  inew := h.inew
  img c hc := by
    obtain ⟨b, x, hx, hw, he⟩ := hc
    exact h.img c ⟨b, x, (take_get hx).2, hw, he⟩
  le b x' hb hx := h.le b x' hb (take_get hx).2
  void b x' hb hx := h.void b x' hb (take_get hx).2
  len := by rw [List.length_take]; have := h.len; omega
end Go.Proofs.Ytnkeijebkpjdgaa.Ab
/- The engine, fourth text: reading related values; sealing. -/
namespace Go.Proofs.Ytnkeijebkpjdgaa.Ab
open Go

section inv
variable {K : KS} {bs : List AB} {hp : Array Obj}
theorem RepV.inv_bool {b : Bool} {v : Value} (h : RepV K bs hp (.bool b) v) : v = .bool b := by
  cases h with | clean h => cases h; rfl
theorem RepV.inv_int {k : IntKind} {n : Int} {v : Value} (h : RepV K bs hp (.int k n) v) : v = .int k n := by
  cases h with | clean h => cases h; rfl
theorem RepV.inv_str {s : List UInt8} {v : Value} (h : RepV K bs hp (.str s) v) : ∃ t : ByteArray, v = .string t ∧ t.data.toList = s := by
  cases h with | clean h => cases h with | str t => exact ⟨t, rfl, rfl⟩
theorem RepV.inv_ptr0 {v : Value} (h : RepV K bs hp .ptr0 v) : v = .pointer none := by
  cases h with | clean h => cases h; rfl
theorem RepV.inv_sl0 {v : Value} (h : RepV K bs hp .sl0 v) : v = .slice none 0 0 := by
  cases h with | clean h => cases h; rfl
theorem RepV.inv_map0 {v : Value} (h : RepV K bs hp .map0 v) : v = .map none := by
  cases h with | clean h => cases h; rfl
theorem RepV.inv_fn0 {v : Value} (h : RepV K bs hp .fn0 v) : v = .nilFunc := by
  cases h with | clean h => cases h; rfl
theorem RepV.inv_vref {c : List AV} {off : Nat} {v : Value} (h : RepV K bs hp (.vref c off) v) :
    ∃ b o us, v = .pointer (some ⟨b, o + off, none⟩) ∧ (c = [] ∨ K.I b) ∧ (∀ (i : Nat) (u : Value), us[i]? = some u → cellH hp b (o + i) = some u ∧ u.oneCell' = true) ∧ RepPL K.I hp c us := by
  cases h with | clean h => cases h with | vref h1 h2 h3 => exact ⟨_, _, _, rfl, h1, h2, h3⟩
theorem RepV.inv_sl {c : List AV} {n : Nat} {tight : Bool} {v : Value} (h : RepV K bs hp (.sl c n tight) v) :
    ∃ b o sp cap us, v = .slice (some ⟨b, o, sp⟩) n cap ∧ n ≤ cap ∧ (tight = true → cap = n) ∧ (c = [] ∨ K.I b) ∧ (∀ (i : Nat) (u : Value), us[i]? = some u → cellH hp b (o + i) = some u ∧ u.oneCell' = true) ∧ RepPL K.I hp c us ∧ (sp = none ∨ cap = 0) := by
  cases h with | clean h => cases h with | sl h1 h2 h3 h4 h5 h6 => exact ⟨_, _, _, _, _, rfl, h1, h2, h3, h4, h5, h6⟩
theorem RepV.inv_ref {b off ver : Nat} {v : Value} (h : RepV K bs hp (.ref b off ver) v) : ∃ x, v = .pointer (some ⟨x, off, none⟩) ∧ born bs b ver ∧ (∀ c i, bs[b]? = some (.cells c i) → ver = verOf c i → x = K.β b) := by
  cases h with
  | clean h => cases h
  | ref h1 h2 => exact ⟨_, rfl, h1, h2⟩
theorem RepV.inv_rsl {b off n : Nat} {cap : Option Nat} {ver : Nat} {v : Value} (h : RepV K bs hp (.rsl b off n cap ver) v) : ∃ x o cp, v = .slice (some ⟨x, o, none⟩) n cp ∧ born bs b ver ∧ n ≤ cp ∧ (∀ m, cap = some m → cp = m) ∧ (cp = 0 ∨ o = off) ∧
    (∀ c i, bs[b]? = some (.cells c i) → ver = verOf c i → x = K.β b ∧ (cap = none → off + cp * i.sz ≤ K.κ b ∧ c.length ≤ off + cp * i.sz)) := by
  cases h with
  | clean h => cases h
  | rsl h1 h2 h3 h4 h5 => exact ⟨_, _, _, rfl, h1, h2, h3, h4, h5⟩
theorem RepV.inv_mref {b : Nat} {v : Value} (h : RepV K bs hp (.mref b) v) : ∃ x, v = .map (some x) ∧ ∀ es, bs[b]? = some (.map es) → x = K.β b := by
  cases h with
  | clean h => cases h
  | mref _ h2 => exact ⟨_, rfl, h2⟩
theorem RepV.inv_yc {b : Nat} {v : Value} (h : RepV K bs hp (.yc b) v) : ∃ x, v = .func (.yield x) #[] #[] ∧ ∀ f t p a c s j, bs[b]? = some (.loop f t p a c s j) → x = K.β b := by
  cases h with
  | clean h => cases h
  | yc _ h2 => exact ⟨_, rfl, h2⟩
theorem RepV.inv_fn {f : FuncId} {a b : List AV} {v : Value} (h : RepV K bs hp (.fn f a b) v) : ∃ va vb : List Value, v = .func (.func f) va.toArray vb.toArray ∧ RepVL K bs hp a va ∧ RepVL K bs hp b vb := by
  cases h with
  | clean h => cases h with | fn h1 h2 => exact ⟨_, _, rfl, .of_clean h1, .of_clean h2⟩
  | fn h1 h2 => exact ⟨_, _, rfl, h1, h2⟩
theorem RepV.inv_ifc {t : TypeId} {a : AV} {v : Value} (h : RepV K bs hp (.ifc t a) v) : ∃ u, v = .iface t u ∧ RepV K bs hp a u := by
  cases h with
  | clean h => cases h with | ifc h => exact ⟨_, rfl, .clean h⟩
  | ifc h => exact ⟨_, rfl, h⟩
theorem RepV.inv_agg {c : List AV} {v : Value} (h : RepV K bs hp (.agg c) v) : ∃ vs : List Value, v = .agg vs.toArray ∧ RepVL K bs hp c vs := by
  cases h with
  | clean h => cases h with | agg h => exact ⟨_, rfl, .of_clean h⟩
  | agg h => exact ⟨_, rfl, h⟩
theorem RepV.inv_tup {c : List AV} {v : Value} (h : RepV K bs hp (.tup c) v) : ∃ vs : List Value, v = .tuple vs.toArray ∧ RepVL K bs hp c vs := by
  cases h with
  | clean h => cases h with | tup h => exact ⟨_, rfl, .of_clean h⟩
  | tup h => exact ⟨_, rfl, h⟩
end inv

/-! Sealing -/
/-- The blocks name no more than they did. -/
structure TopLe (bs bs' : List AB) : Prop where
  len : bs'.length = bs.length
  top : ∀ (b : Nat) x', bs'[b]? = some x' → ∃ x, bs[b]? = some x ∧ x'.top ≤ x.top
theorem TopLe.refl (bs : List AB) : TopLe bs bs := ⟨rfl, fun _ x h => ⟨x, h, Nat.le_refl _⟩⟩
theorem TopLe.trans {a b c : List AB} (h : TopLe a b) (k : TopLe b c) : TopLe a c :=
  ⟨k.len.trans h.len, fun i x hx => by
    obtain ⟨y, hy, h1⟩ := k.top i x hx
    obtain ⟨z, hz, h2⟩ := h.top i y hy
    exact ⟨z, hz, Nat.le_trans h1 h2⟩⟩
theorem TopLe.esc {h : H} {bs' : List AB} (t : TopLe h.bs bs') (he : EscR h) : EscR { h with bs := bs' } := by
  intro b x hx
  obtain ⟨y, hy, h1⟩ := t.top b x hx
  rcases he b y hy with h2 | ⟨e, h2, h3, h4⟩
  · exact .inl (Nat.le_trans h1 h2)
  · exact .inr ⟨e, h2, h3, Nat.le_trans h1 h4⟩

structure Sealed (K : KS) (bs : List AB) (hp : Array Obj) (K' : KS) (bs' : List AB) : Prop where
  tr : Tr K bs hp K' bs' hp
  hr : HR K' bs' hp
  top : TopLe bs bs'
theorem Sealed.trans {K K' K'' : KS} {bs bs' bs'' : List AB} {hp : Array Obj} (h : Sealed K bs hp K' bs') (k : Sealed K' bs' hp K'' bs'') : Sealed K bs hp K'' bs'' :=
  ⟨h.tr.trans k.tr, k.hr, h.top.trans k.top⟩
def DeepOk (deep : List AB → List AV → List AV × List AB) : Prop :=
  ∀ K bs hp l us, HR K bs hp → RepVL K bs hp l us → ∃ K', Sealed K bs hp K' (deep bs l).2 ∧ RepVL K' (deep bs l).2 hp (deep bs l).1 us

theorem sealOne {K : KS} {bs : List AB} {hp : Array Obj} {b : Nat} {c c' : List AV} {i : BI} {us : List Value} (hr : HR K bs hp) (hb : bs[b]? = some (.cells c i)) (hw : i.wr = true) (hl : c'.length = c.length)
    (hm : ∃ (cc : Array Value) (e : TypeId) (lo hi : Nat), hp[K.β b]? = some (.cells cc e (lo, hi)) ∧ Unfr cc.size lo hi ∧ cc.size = K.κ b ∧ (∀ (j : Nat) (u : Value), us[j]? = some u → cc[j]? = some u ∧ u.oneCell' = true))
    (hc : RepPL K.I hp c' us) : Sealed K bs hp { K with I := fun x => K.I x ∨ x = K.β b } (bs.set b (.cells c' { i with cl := true, wr := false })) := by
  have hlt : b < bs.length := (List.getElem?_eq_some_iff.1 hb).1
  have hget : ∀ j, (bs.set b (AB.cells c' { i with cl := true, wr := false }))[j]? = if j = b then some (.cells c' { i with cl := true, wr := false }) else bs[j]? := by
    intro j
    rw [List.getElem?_set]
    by_cases h : b = j
    · subst h; simp [hlt]
    · rw [if_neg h, if_neg (fun e => h e.symm)]
  have htr : Tr K bs hp { K with I := fun x => K.I x ∨ x = K.β b } (bs.set b (.cells c' { i with cl := true, wr := false })) hp := by
    refine ⟨Nat.le_refl _, fun _ _ _ => rfl, fun _ h => .inl h, ?_, ?_, ?_, ?_, by simp⟩
    · rintro x (h | h)
      · exact .inl h
      · exact .inr (.inr ⟨b, _, hb, hw, h.symm⟩)
    · rintro x ⟨j, y, hy, hyw, he⟩
      rw [hget] at hy
      split at hy
      · cases hy; simp [AB.wrt] at hyw
      · exact .inl ⟨j, y, hy, hyw, he⟩
    · intro j y hj hy hyl
      rw [hget] at hy
      split at hy
      · rename_i e; subst e
        cases hy
        refine ⟨_, hb, .inr ⟨rfl, ⟨rfl, rfl, fun _ => hl.symm⟩, ?_, fun _ => ⟨rfl, rfl⟩⟩⟩
        simp [AB.ver, verA, hl]
      · exact ⟨y, hy, .inr ⟨hyl, kin_refl hyl, Nat.le_refl _, fun _ => ⟨rfl, rfl⟩⟩⟩
    · intro j y hj hy hv
      rw [hget] at hy
      split at hy
      · cases hy; cases hv
      · exact ⟨y, hy, hv⟩
  have L := htr.lat hr
  refine ⟨htr, ⟨?_, ?_, ?_, ?_, ?_⟩, ⟨by simp, ?_⟩⟩
  · intro j j' x x' hx hx' hxl hxl' he
    rw [hget] at hx hx'
    have e1 : ∃ y, bs[j]? = some y ∧ y.live = true := by
      split at hx
      · rename_i e; subst e; exact ⟨_, hb, rfl⟩
      · exact ⟨x, hx, hxl⟩
    have e2 : ∃ y, bs[j']? = some y ∧ y.live = true := by
      split at hx'
      · rename_i e; subst e; exact ⟨_, hb, rfl⟩
      · exact ⟨x', hx', hxl'⟩
    obtain ⟨y, h1, h2⟩ := e1
    obtain ⟨y', h3, h4⟩ := e2
    exact hr.inj j j' y y' h1 h3 h2 h4 he
  · intro j x hx hxl
    rw [hget] at hx
    split at hx
    · rename_i e; subst e
      cases hx
      obtain ⟨cc, e, lo, hi, h1, h2, h3, h4⟩ := hm
      exact ⟨_, h1, cc, e, lo, hi, us, rfl, h2, h3, h4, .of_clean (hc.mono (fun _ h => .inl h) (fun _ _ => rfl)), fun _ => hc.isClean⟩
    · obtain ⟨o, ho, hR⟩ := hr.obj j x hx hxl
      exact ⟨o, ho, hR.mono L⟩
  · rintro x (h | h)
    · exact hr.ilt x h
    · subst h; exact hr.lt b _ hb rfl
  · intro j x hx hxw hI
    rw [hget] at hx
    split at hx
    · cases hx; simp [AB.wrt] at hxw
    · rename_i hne
      rcases hI with hI | hI
      · exact hr.wr j x hx hxw hI
      · exact hne (hr.inj j b x _ hx hb (wrt_live hxw) rfl hI)
  · intro j d k hx hk
    rw [hget] at hx
    split at hx
    · rename_i e; subst e
      cases hx
      exact ⟨.inr rfl, rfl⟩
    · have := hr.nwr j d k hx hk
      exact ⟨.inl this.1, this.2⟩
  · intro j x hx
    rw [hget] at hx
    split at hx
    · rename_i e; subst e
      cases hx
      exact ⟨_, hb, by simp [AB.top]⟩
    · exact ⟨x, hx, Nat.le_refl _⟩

theorem sealB_sound {deep : List AB → List AV → List AV × List AB} (hd : DeepOk deep) {K : KS} {bs : List AB} {hp : Array Obj} (hr : HR K bs hp) {b ver : Nat} {c' : List AV} {i : BI} {bs' : List AB}
    (h : sealB deep bs b ver = some (c', i, bs')) : ∃ K' us c, Sealed K bs hp K' bs' ∧ bs[b]? = some (.cells c i) ∧ ver = verOf c i ∧ c'.length = c.length ∧ K'.I (K.β b) ∧
      (∀ (j : Nat) (u : Value), us[j]? = some u → cellH hp (K.β b) j = some u ∧ u.oneCell' = true) ∧ RepPL K'.I hp c' us := by
  unfold sealB at h
  cases hb : bs[b]? with
  | none => simp [hb] at h
  | some x =>
    cases x with
    | cells c i0 =>
      simp only [hb] at h
      by_cases hv : ver = verA i0 c.length
      case neg => rw [if_neg hv] at h; cases h
      rw [if_pos hv] at h
      obtain ⟨o, ho, cc, e, lo, hi, us, rfl, h2, h3, h4, h5, h6⟩ := hr.obj b _ hb rfl
      have hcell : ∀ (j : Nat) (u : Value), us[j]? = some u → cellH hp (K.β b) j = some u ∧ u.oneCell' = true := by
        intro j u hu
        unfold cellH
        rw [ho]
        exact h4 j u hu
      cases hw : i0.wr with
      | false =>
        rw [if_pos hw] at h
        cases h
        have := hr.nwr b c' i hb hw
        exact ⟨K, us, c', ⟨Tr.refl _ _ _, hr, TopLe.refl _⟩, rfl, hv, rfl, this.1, hcell, h5.toP (h6 this.2)⟩
      | true =>
        rw [if_neg (by simp [hw])] at h
        cases hcl : i0.cl with
        | true =>
          rw [if_pos hcl] at h
          cases h
          have hp5 := h5.toP (h6 hcl)
          have hs := sealOne hr hb hw rfl ⟨cc, e, lo, hi, ho, h2, h3, h4⟩ hp5
          have ei : ({ i with cl := true, wr := false } : BI) = { i with wr := false } := by cases i; simp_all
          rw [ei] at hs
          exact ⟨_, us, c', hs, rfl, hv, rfl, .inr rfl, hcell, hp5.mono (fun _ h => .inl h) (fun _ _ => rfl)⟩
        | false =>
          rw [if_neg (by simp [hcl])] at h
          cases hb1 : (deep bs c).2[b]? with
          | none => simp [hb1] at h
          | some y =>
            cases y with
            | cells d j =>
              simp only [hb1] at h
              split at h
              · rename_i hcc
                cases h
                simp only [Bool.and_eq_true, beq_iff_eq] at hcc
                obtain ⟨⟨⟨⟨⟨k1, k2⟩, k3⟩, k4⟩, k5⟩, k6⟩ := hcc
                obtain ⟨K1, hs1, hv1⟩ := hd K bs hp c us hr h5
                have hver : ver = verOf d j := by unfold verOf verA; rw [k3, k5]; exact hv
                obtain ⟨c2, i2, g1, g2, g3, g4, g5, g6, g7⟩ := (hs1.tr.lat hr).cells b ver ⟨_, hb, rfl, fun _ => by rw [hv]; exact Nat.le_refl _⟩ d j hb1 hver
                have hp5 := hv1.toP k1
                have hs := sealOne (c' := (deep bs c).1) hs1.hr hb1 k4 (k2.trans k3.symm) ⟨cc, e, lo, hi, by rw [g6]; exact ho, h2, by rw [g7]; exact h3, h4⟩ hp5
                exact ⟨_, us, c, hs1.trans hs, rfl, hv, k2, .inr g6.symm, hcell, hp5.mono (fun _ h => .inl h) (fun _ _ => rfl)⟩
              · cases h
            | _ => simp [hb1] at h
    | _ => simp [hb] at h

theorem cells_mono {hp : Array Obj} {b o : Nat} {us : List Value} (h : ∀ (j : Nat) (u : Value), us[j]? = some u → cellH hp b j = some u ∧ u.oneCell' = true) (n : Nat) :
    ∀ (j : Nat) (u : Value), ((us.drop o).take n)[j]? = some u → cellH hp b (o + j) = some u ∧ u.oneCell' = true := by
  intro j u hu
  rw [List.getElem?_take] at hu
  split at hu
  · rw [List.getElem?_drop] at hu
    exact h _ _ hu
  · cases hu
mutual
theorem sealV_sound {deep : List AB → List AV → List AV × List AB} (hd : DeepOk deep) {K : KS} {bs : List AB} {hp : Array Obj} (hr : HR K bs hp) :
    ∀ (a : AV) {v : Value}, RepV K bs hp a v → ∃ K', Sealed K bs hp K' (sealV deep bs a).2 ∧ RepV K' (sealV deep bs a).2 hp (sealV deep bs a).1 v
  | .rsl b off n cap ver, v, h => by
    simp only [sealV]
    cases hs : sealB deep bs b ver with
    | none => exact ⟨K, ⟨Tr.refl _ _ _, hr, TopLe.refl _⟩, h⟩
    | some r =>
      obtain ⟨c', i, bs'⟩ := r
      simp only
      split
      · rename_i hc
        obtain ⟨K', us, c, h1, h2, h3, h4, h5, h6, h7⟩ := sealB_sound hd hr hs
        obtain ⟨x, o, cp, rfl, _, e2, e3, e5, e4⟩ := h.inv_rsl
        obtain rfl := (e4 c i h2 h3).1
        have ht : tightA cap n = true → cp = n := by
          intro ht
          cases cap with
          | none => simp [tightA] at ht
          | some m => simp [tightA] at ht; rw [e3 m rfl, ht]
        refine ⟨K', h1, .clean ?_⟩
        rcases e5 with e5 | e5
        · have hn0 : n = 0 := by omega
          subst hn0
          split
          · rename_i hw
            have hc0 : c' = [] := List.eq_nil_of_length_eq_zero (by omega)
            subst hc0
            exact .sl e2 ht (.inl rfl) (us := []) (fun i u hu => by simp at hu) .nil (.inl rfl)
          · rw [Nat.zero_mul, List.take_zero]
            exact .sl e2 ht (.inl rfl) (us := []) (fun i u hu => by simp at hu) .nil (.inl rfl)
        · subst e5
          split
          · rename_i hw
            refine .sl e2 ht (.inr h5) (us := us) ?_ h7 (.inl rfl)
            rw [hw.1]; simpa using h6
          · exact .sl e2 ht (.inr h5) (us := (us.drop o).take (n * i.sz)) (cells_mono h6 _) ((h7.drop _).take _) (.inl rfl)
      · exact ⟨K, ⟨Tr.refl _ _ _, hr, TopLe.refl _⟩, h⟩
  | .ref b off ver, v, h => by
    simp only [sealV]
    cases hs : sealB deep bs b ver with
    | none => exact ⟨K, ⟨Tr.refl _ _ _, hr, TopLe.refl _⟩, h⟩
    | some r =>
      obtain ⟨c', i, bs'⟩ := r
      simp only
      obtain ⟨K', us, c, h1, h2, h3, h4, h5, h6, h7⟩ := sealB_sound hd hr hs
      obtain ⟨x, rfl, _, e1⟩ := h.inv_ref
      obtain rfl := e1 c i h2 h3
      refine ⟨K', h1, .clean ?_⟩
      have := RepP.vref (I := K'.I) (hp := hp) (off := off) (o := 0) (.inr h5) (fun i u hu => by simpa using h6 i u hu) h7
      simpa using this
  | .fn f x y, v, h => by
    simp only [sealV]
    obtain ⟨va, vb, rfl, h1, h2⟩ := h.inv_fn
    obtain ⟨K1, s1, r1⟩ := sealVL_sound hd hr x h1
    obtain ⟨K2, s2, r2⟩ := sealVL_sound hd s1.hr y (h2.mono (s1.tr.lat hr))
    exact ⟨K2, s1.trans s2, .fn (r1.mono (s2.tr.lat s1.hr)) r2⟩
  | .ifc t a, v, h => by
    simp only [sealV]
    obtain ⟨u, rfl, h1⟩ := h.inv_ifc
    obtain ⟨K1, s1, r1⟩ := sealV_sound hd hr a h1
    exact ⟨K1, s1, .ifc r1⟩
  | .agg c, v, h => by
    simp only [sealV]
    obtain ⟨u, rfl, h1⟩ := h.inv_agg
    obtain ⟨K1, s1, r1⟩ := sealVL_sound hd hr c h1
    exact ⟨K1, s1, .agg r1⟩
  | .tup c, v, h => by
    simp only [sealV]
    obtain ⟨u, rfl, h1⟩ := h.inv_tup
    obtain ⟨K1, s1, r1⟩ := sealVL_sound hd hr c h1
    exact ⟨K1, s1, .tup r1⟩
  | .hole, v, h => by simp only [sealV]; exact ⟨K, ⟨Tr.refl _ _ _, hr, TopLe.refl _⟩, h⟩
  | .bool _, v, h => by simp only [sealV]; exact ⟨K, ⟨Tr.refl _ _ _, hr, TopLe.refl _⟩, h⟩
  | .int .., v, h => by simp only [sealV]; exact ⟨K, ⟨Tr.refl _ _ _, hr, TopLe.refl _⟩, h⟩
  | .str _, v, h => by simp only [sealV]; exact ⟨K, ⟨Tr.refl _ _ _, hr, TopLe.refl _⟩, h⟩
  | .ptr0, v, h => by simp only [sealV]; exact ⟨K, ⟨Tr.refl _ _ _, hr, TopLe.refl _⟩, h⟩
  | .sl0, v, h => by simp only [sealV]; exact ⟨K, ⟨Tr.refl _ _ _, hr, TopLe.refl _⟩, h⟩
  | .map0, v, h => by simp only [sealV]; exact ⟨K, ⟨Tr.refl _ _ _, hr, TopLe.refl _⟩, h⟩
  | .fn0, v, h => by simp only [sealV]; exact ⟨K, ⟨Tr.refl _ _ _, hr, TopLe.refl _⟩, h⟩
  | .ifc0, v, h => by simp only [sealV]; exact ⟨K, ⟨Tr.refl _ _ _, hr, TopLe.refl _⟩, h⟩
  | .vref .., v, h => by simp only [sealV]; exact ⟨K, ⟨Tr.refl _ _ _, hr, TopLe.refl _⟩, h⟩
  | .sl .., v, h => by simp only [sealV]; exact ⟨K, ⟨Tr.refl _ _ _, hr, TopLe.refl _⟩, h⟩
  | .mref .., v, h => by simp only [sealV]; exact ⟨K, ⟨Tr.refl _ _ _, hr, TopLe.refl _⟩, h⟩
  | .yc .., v, h => by simp only [sealV]; exact ⟨K, ⟨Tr.refl _ _ _, hr, TopLe.refl _⟩, h⟩
theorem sealVL_sound {deep : List AB → List AV → List AV × List AB} (hd : DeepOk deep) {K : KS} {bs : List AB} {hp : Array Obj} (hr : HR K bs hp) :
    ∀ (l : List AV) {vs : List Value}, RepVL K bs hp l vs → ∃ K', Sealed K bs hp K' (sealVL deep bs l).2 ∧ RepVL K' (sealVL deep bs l).2 hp (sealVL deep bs l).1 vs
  | [], vs, h => by simp only [sealVL]; exact ⟨K, ⟨Tr.refl _ _ _, hr, TopLe.refl _⟩, h⟩
  | a :: l, vs, h => by
    simp only [sealVL]
    cases h with
    | cons h0 h =>
      obtain ⟨K1, s1, r1⟩ := sealV_sound hd hr a h0
      obtain ⟨K2, s2, r2⟩ := sealVL_sound hd s1.hr l (h.mono (s1.tr.lat hr))
      exact ⟨K2, s1.trans s2, .cons (r1.mono (s2.tr.lat s1.hr)) r2⟩
end
theorem sealL_ok : ∀ n, DeepOk (sealL n)
  | 0 => fun K _ _ _ _ hr h => ⟨K, ⟨Tr.refl _ _ _, hr, TopLe.refl _⟩, h⟩
  | n + 1 => fun _ _ _ l _ hr h => sealVL_sound (sealL_ok n) hr l h
theorem seal_sound {K : KS} {bs : List AB} {hp : Array Obj} (hr : HR K bs hp) (a : AV) {v : Value} (h : RepV K bs hp a v) : ∃ K', Sealed K bs hp K' (a.seal bs).2 ∧ RepV K' (a.seal bs).2 hp (a.seal bs).1 v :=
  sealV_sound (sealL_ok 4) hr a h
theorem argA_sound {K : KS} {bs : List AB} {hp : Array Obj} (hr : HR K bs hp) (a : AV) {v : Value} (h : RepV K bs hp a v) : ∃ K', Sealed K bs hp K' (argA bs a).2 ∧ RepV K' (argA bs a).2 hp (argA bs a).1 v := by
  unfold argA
  split
  · exact seal_sound hr _ h
  · exact ⟨K, ⟨Tr.refl _ _ _, hr, TopLe.refl _⟩, h⟩
theorem argsA_sound {K : KS} {bs : List AB} {hp : Array Obj} (hr : HR K bs hp) (l : List AV) {vs : List Value} (h : RepVL K bs hp l vs) : ∃ K', Sealed K bs hp K' (argsA bs l).2 ∧ RepVL K' (argsA bs l).2 hp (argsA bs l).1 vs := by
  induction l generalizing K bs vs with
  | nil => simp only [argsA]; exact ⟨K, ⟨Tr.refl _ _ _, hr, TopLe.refl _⟩, h⟩
  | cons a l ih =>
    simp only [argsA]
    cases h with
    | cons h0 h =>
      obtain ⟨K1, s1, r1⟩ := argA_sound hr a h0
      obtain ⟨K2, s2, r2⟩ := ih s1.hr (h.mono (s1.tr.lat hr))
      exact ⟨K2, s1.trans s2, .cons (r1.mono (s2.tr.lat s1.hr)) r2⟩
end Go.Proofs.Ytnkeijebkpjdgaa.Ab
