import Derived.Test.YtnkeijebkpjdgaaMLookKeeps10
set_option linter.unusedVariables false
set_option linter.unusedSimpArgs false
/- The engine, twenty-fourth text: what holds behind some code, walked with letters among the values. -/
namespace Go.Proofs.Ytnkeijebkpjdgaa.Ab
open Go

/-! Values laid open for what is next. -/
def RT.getK : RT → Nat → (AV → Prop) → Prop
  | .leaf, _, K => K .hole
  | .node v l r, n, K => bif Nat.beq n 1 then K v else bif Nat.beq (n % 2) 0 then l.getK (n / 2) K else r.getK (n / 2) K
theorem RT.getK_eq : ∀ (t : RT) (n : Nat) (K : AV → Prop), t.getK n K = K (t.get n)
  | .leaf, _, _ => rfl
  | .node v l r, n, K => by
    simp only [RT.getK, RT.get]
    cases Nat.beq n 1 <;> cases Nat.beq (n % 2) 0 <;> simp only [cond_true, cond_false] <;> first | rfl | exact RT.getK_eq _ _ K
def RT.putK (v : AV) : RT → Nat → (RT → Prop) → Prop
  | .leaf, _, K => K .leaf
  | .node x l r, n, K => bif Nat.beq n 1 then K (.node v l r) else bif Nat.beq (n % 2) 0 then l.putK v (n / 2) (fun l' => K (.node x l' r)) else r.putK v (n / 2) (fun r' => K (.node x l r'))
theorem RT.putK_eq (v : AV) : ∀ (t : RT) (n : Nat) (K : RT → Prop), t.putK v n K = K (t.put v n)
  | .leaf, _, _ => rfl
  | .node x l r, n, K => by
    simp only [RT.putK, RT.put]
    cases Nat.beq n 1 <;> cases Nat.beq (n % 2) 0 <;> simp only [cond_true, cond_false] <;> first | rfl | exact RT.putK_eq v _ _ _
def RG.putK : RG → Nat → AV → (RG → Prop) → Prop
  | ⟨n, t⟩, i, v, K => bif Nat.blt i n then t.putK v (i + 1) (fun t => K ⟨n, t⟩) else K ⟨n, t⟩
theorem RG.putK_eq (r : RG) (i : Nat) (v : AV) (K : RG → Prop) : r.putK i v K = K (r.put i v) := by
  obtain ⟨n, t⟩ := r
  unfold RG.putK RG.put
  dsimp only
  cases Nat.blt i n <;> simp only [cond_true, cond_false, RT.putK_eq]
def putTK (r : RG) (d : Option Tmp) (v : AV) (K : RG → Prop) : Prop :=
  match d with
  | some d => r.putK d v K
  | none => K r
theorem putTK_eq (r : RG) (d : Option Tmp) (v : AV) (K : RG → Prop) : putTK r d v K = K (putT r d v) := by
  cases d with
  | none => rfl
  | some d => exact RG.putK_eq r d v K
def listK {α : Type} : List α → (List α → Prop) → Prop
  | [], K => K []
  | x :: l, K => listK l fun l' => K (x :: l')
theorem listK_eq {α : Type} : ∀ (l : List α) (K : List α → Prop), listK l K = K l
  | [], _ => rfl
  | _ :: l, _ => listK_eq l _
/-- How long a list is, as a number. -/
def lenK {α : Type} : List α → (Nat → Prop) → Prop
  | [], K => K 0
  | _ :: l, K => lenK l fun n => K (n + 1)
theorem lenK_eq {α : Type} : ∀ (l : List α) (K : Nat → Prop), lenK l K = K l.length
  | [], _ => rfl
  | _ :: l, _ => lenK_eq l _
/-- The value's outmost sign. -/
def AV.force (v : AV) (K : AV → Prop) : Prop :=
  match v with
  | .hole => K .hole
  | .bool b => K (.bool b)
  | .int k n => K (.int k n)
  | .str s => K (.str s)
  | .ptr0 => K .ptr0
  | .sl0 => K .sl0
  | .map0 => K .map0
  | .fn0 => K .fn0
  | .ifc0 => K .ifc0
  | .ref b o v => K (.ref b o v)
  | .vref c o => K (.vref c o)
  | .sl c n t => K (.sl c n t)
  | .rsl b o n c v => K (.rsl b o n c v)
  | .mref b => K (.mref b)
  | .fn f a b => K (.fn f a b)
  | .yc b => K (.yc b)
  | .ifc t v => K (.ifc t v)
  | .agg c => listK c fun c => K (.agg c)
  | .tup c => listK c fun c => K (.tup c)
theorem AV.force_eq (v : AV) (K : AV → Prop) : v.force K = K v := by cases v <;> first | rfl | exact listK_eq _ _
/-- The heap behind an operation, its blocks laid open. -/
def H.appK : H → Nat → WL → (H → Prop) → Prop
  | ⟨bs, esc⟩, _, .none, K => K ⟨bs, esc⟩
  | ⟨bs, esc⟩, _, .put b off vs, K => match bs[b]? with
    | some (.cells c i) => listK (splice c off vs) fun c' => listK (bs.set b (.cells c' i)) fun bs' => listK (if topL vs ≤ b + 1 then esc else (b, topL vs) :: esc) fun e => K ⟨bs', e⟩
    | _ => K ⟨bs, esc⟩
  | ⟨bs, esc⟩, nid, w, K => listK (H.app ⟨bs, esc⟩ nid w).bs fun bs' => listK (H.app ⟨bs, esc⟩ nid w).esc fun e => K ⟨bs', e⟩
theorem H.appK_eq (h : H) (nid : Nat) (w : WL) (K : H → Prop) : h.appK nid w K = K (h.app nid w) := by
  obtain ⟨bs, esc⟩ := h
  cases w with
  | none => rfl
  | put b off vs =>
    simp only [H.appK, H.app, listK_eq]
    cases hb : bs[b]? with
    | none => rfl
    | some x => cases x <;> rfl
  | new x => simp only [H.appK, listK_eq]
  | blk b x => simp only [H.appK, listK_eq]

/-- How an operation goes: what it reads, hands back, does. -/
def runK : AM Out → List AB → (List RL → AV → WL → Prop) → Prop
  | .ret (v, w), _, K => v.force fun v => K [] v w
  | .fail, _, _ => False
  | .cells b off n k, h, K => match h[b]? with
    | some (.cells c _) => if off + n ≤ c.length then runK (k ((c.drop off).take n)) h fun r => K (.cells b off n :: r) else False
    | _ => False
  | .cell b off k, h, K => match h[b]? with
    | some (.cells c _) => match c[off]? with
      | some v => runK (k v) h fun r => K (.cells b off 1 :: r)
      | none => False
    | _ => False
  | .info b k, h, K => match h[b]? with
    | some (.cells c i) => runK (k i c.length) h fun r => K (.info b :: r)
    | _ => False
  | .blk b k, h, K => match h[b]? with
    | some x => runK (k x) h fun r => K (.blk b :: r)
    | none => False
theorem runK_sound : ∀ (m : AM Out) (h : List AB) (K : List RL → AV → WL → Prop), runK m h K → ∃ v w, m.run h = some (v, w) ∧ K (m.reads h) v w
  | .ret (v, w), h, K, hk => ⟨v, w, rfl, by have := hk; unfold runK at this; rwa [AV.force_eq] at this⟩
  | .fail, _, _, hk => hk.elim
  | .cells b off n k, h, K, hk => by
    unfold runK at hk
    split at hk
    · rename_i c i hb
      split at hk
      · rename_i hl
        obtain ⟨v, w, h1, h2⟩ := runK_sound _ h _ hk
        exact ⟨v, w, by simp only [AM.run, hb, if_pos hl]; exact h1, by simp only [AM.reads, hb]; exact h2⟩
      · exact hk.elim
    · exact hk.elim
  | .cell b off k, h, K, hk => by
    unfold runK at hk
    split at hk
    · rename_i c i hb
      split at hk
      · rename_i x hx
        obtain ⟨v, w, h1, h2⟩ := runK_sound _ h _ hk
        exact ⟨v, w, by simp only [AM.run, hb, hx]; exact h1, by simp only [AM.reads, hb, hx]; exact h2⟩
      · exact hk.elim
    · exact hk.elim
  | .info b k, h, K, hk => by
    unfold runK at hk
    split at hk
    · rename_i c i hb
      obtain ⟨v, w, h1, h2⟩ := runK_sound _ h _ hk
      exact ⟨v, w, by simp only [AM.run, hb]; exact h1, by simp only [AM.reads, hb]; exact h2⟩
    · exact hk.elim
  | .blk b k, h, K, hk => by
    unfold runK at hk
    split at hk
    · rename_i x hb
      obtain ⟨v, w, h1, h2⟩ := runK_sound _ h _ hk
      exact ⟨v, w, by simp only [AM.run, hb]; exact h1, by simp only [AM.reads, hb]; exact h2⟩
    · exact hk.elim

/-- Is an operation wanted? -/
def wantK (ops : Array Oper) (tmps : RG) (o : Oper) (Y N : Prop) : Prop :=
  match o.guard with
  | none => Y
  | some (j, want) => match (ops[j]?).bind (·.dst) with
    | some d => tmps.t.getK (d + 1) fun v => match v with
      | .bool b => bif b then (bif want then Y else N) else (bif want then N else Y)
      | .hole => False
      | _ => N
    | none => N
theorem wantK_sound {ops : Array Oper} {tmps : RG} {o : Oper} {Y N : Prop} (h : wantK ops tmps o Y N) : (wantedA ops tmps o = some true ∧ Y) ∨ (wantedA ops tmps o = some false ∧ N) := by
  unfold wantK at h
  unfold wantedA
  split at h
  · rename_i hg
    simp only [hg]
    exact .inl ⟨trivial, h⟩
  · rename_i j want hg
    simp only [hg]
    split at h
    · rename_i d hd
      simp only [hd]
      rw [RT.getK_eq] at h
      have e : tmps.t.get (d + 1) = tmps.get d := rfl
      rw [e] at h
      split at h
      · rename_i b hb
        simp only [hb]
        cases b <;> cases want <;> simp only [cond_true, cond_false] at h
        · exact .inl ⟨rfl, h⟩
        · exact .inr ⟨rfl, h⟩
        · exact .inr ⟨rfl, h⟩
        · exact .inl ⟨rfl, h⟩
      · exact h.elim
      · rename_i x hb hh
        split
        · rename_i b hb'
          exact (hb b hb').elim
        · rename_i hh'
          exact (hh hh').elim
        · exact .inr ⟨rfl, h⟩
    · rename_i hd
      simp only [hd]
      exact .inr ⟨trivial, h⟩

def opndsK (tmps : RG) : List Operand → (List AV → Prop) → Prop
  | [], K => K []
  | x :: l, K => (opnd tmps x).force fun v => opndsK tmps l fun vs => K (v :: vs)
theorem opndsK_eq (tmps : RG) : ∀ (l : List Operand) (K : List AV → Prop), opndsK tmps l K = K (l.map (opnd tmps))
  | [], _ => rfl
  | x :: l, K => by
    simp only [opndsK, AV.force_eq, List.map_cons]
    exact opndsK_eq tmps l _

/-! An operation's operands, read once. -/
def lookT : List (Nat × AV) → Nat → AV
  | [], _ => .hole
  | (k, v) :: l, t => bif Nat.beq k t then v else lookT l t
def lookA (l : List (Nat × AV)) : Operand → AV
  | .tmp t => lookT l t
  | .const v => AV.ofValue v
  | .global _ => .hole
  | .func f => .fn f [] []
def readK (t : RT) : List Operand → List (Nat × AV) → (List (Nat × AV) → Prop) → Prop
  | [], acc, K => K acc
  | .tmp i :: l, acc, K => t.getK (i + 1) fun v => readK t l ((i, v) :: acc) K
  | _ :: l, acc, K => readK t l acc K
theorem readK_eq (n : Nat) (t : RT) : ∀ (ops : List Operand) (acc : List (Nat × AV)) (K : List (Nat × AV) → Prop), (∀ i v, (i, v) ∈ acc → v = opnd ⟨n, t⟩ (.tmp i)) → readK t ops acc K →
    ∃ l, K l ∧ (∀ i v, (i, v) ∈ l → v = opnd ⟨n, t⟩ (.tmp i)) ∧ (∀ i, (Operand.tmp i ∈ ops ∨ ∃ v, (i, v) ∈ acc) → ∃ v, (i, v) ∈ l)
  | [], acc, K, ha, h => ⟨acc, h, ha, fun i hi => by
      rcases hi with hi | hi
      · cases hi
      · exact hi⟩
  | .tmp i :: r, acc, K, ha, h => by
    unfold readK at h
    rw [RT.getK_eq] at h
    obtain ⟨l, h1, h2, h3⟩ := readK_eq n t r _ K (fun j v hj => by
      rcases List.mem_cons.1 hj with hj | hj
      · cases hj; rfl
      · exact ha j v hj) h
    refine ⟨l, h1, h2, fun j hj => h3 j ?_⟩
    rcases hj with hj | ⟨v, hj⟩
    · rcases List.mem_cons.1 hj with hj | hj
      · cases hj
        exact .inr ⟨_, List.mem_cons_self ..⟩
      · exact .inl hj
    · exact .inr ⟨v, List.mem_cons_of_mem _ hj⟩
  | .const c :: r, acc, K, ha, h => by
    unfold readK at h
    obtain ⟨l, h1, h2, h3⟩ := readK_eq n t r acc K ha h
    refine ⟨l, h1, h2, fun j hj => h3 j (hj.imp (fun hj => ?_) id)⟩
    rcases List.mem_cons.1 hj with hj | hj
    · cases hj
    · exact hj
  | .global c :: r, acc, K, ha, h => by
    unfold readK at h
    obtain ⟨l, h1, h2, h3⟩ := readK_eq n t r acc K ha h
    refine ⟨l, h1, h2, fun j hj => h3 j (hj.imp (fun hj => ?_) id)⟩
    rcases List.mem_cons.1 hj with hj | hj
    · cases hj
    · exact hj
  | .func c :: r, acc, K, ha, h => by
    unfold readK at h
    obtain ⟨l, h1, h2, h3⟩ := readK_eq n t r acc K ha h
    refine ⟨l, h1, h2, fun j hj => h3 j (hj.imp (fun hj => ?_) id)⟩
    rcases List.mem_cons.1 hj with hj | hj
    · cases hj
    · exact hj
theorem lookT_of {f : Nat → AV} : ∀ (l : List (Nat × AV)) (i : Nat), (∀ i v, (i, v) ∈ l → v = f i) → (∃ v, (i, v) ∈ l) → lookT l i = f i
  | [], _, _, ⟨v, h⟩ => by cases h
  | (k, v) :: l, i, hl, ⟨u, h⟩ => by
    unfold lookT
    cases hb : Nat.beq k i with
    | true =>
      have := Nat.eq_of_beq_eq_true hb
      subst this
      exact hl _ _ (List.mem_cons_self ..)
    | false =>
      rw [cond_false]
      refine lookT_of l i (fun j w hj => hl j w (List.mem_cons_of_mem _ hj)) ?_
      rcases List.mem_cons.1 h with h | h
      · cases h
        simp at hb
      · exact ⟨u, h⟩
/-- An operation's outcome is that of what its operands are. -/
theorem look_op {P : Program} {flat : TypeId → Option (List Nat)} {nid : Nat} {op : Op} {n : Nat} {t : RT} {K : AM Out → Prop} (h : readK t op.operands.toList [] fun l => K (evOp P flat nid op (lookA l))) : K (evOp P flat nid op (opnd ⟨n, t⟩)) := by
  obtain ⟨l, h1, h2, h3⟩ := readK_eq n t _ _ _ (fun i v hv => by cases hv) h
  have e : evOp P flat nid op (lookA l) = evOp P flat nid op (opnd ⟨n, t⟩) := by
    refine evOp_congr fun x hx => ?_
    cases x with
    | tmp i =>
      show lookT l i = opnd ⟨n, t⟩ (.tmp i)
      exact lookT_of (f := fun i => opnd ⟨n, t⟩ (.tmp i)) l i h2 (h3 i (.inl (by simpa using hx)))
    | _ => rfl
  rw [← e]
  exact h1

/-- What is built of some values. -/
def bldA (P : Program) (t : TypeId) (vs : List (Nat × AV)) : AM Out := match zeroCellsA P t, P.underlying t with
    | some z, some (.struct fs) => match fs.toList.mapM (fun f => (P.info? f.type).map fun i => (f.offset, i.size)) with
      | some places => pur ((fillA (places.toArray[·]?) z vs).map AV.agg)
      | none => .fail
    | some z, some (.array _ e) => match szOf P e with
      | some n => pur ((fillA (fun i => some (i * n, n)) z vs).map AV.agg)
      | none => .fail
    | _, _ => .fail
def lookTK : List (Nat × AV) → Nat → (AV → Prop) → Prop
  | [], _, K => K .hole
  | (k, v) :: l, t, K => bif Nat.beq k t then K v else lookTK l t K
theorem lookTK_eq : ∀ (l : List (Nat × AV)) (t : Nat) (K : AV → Prop), lookTK l t K = K (lookT l t)
  | [], _, _ => rfl
  | (k, v) :: l, t, K => by
    simp only [lookTK, lookT, lookTK_eq l]
    cases Nat.beq k t <;> rfl
def partsK (l : List (Nat × AV)) : List (Nat × Operand) → (List (Nat × AV) → Prop) → Prop
  | [], K => K []
  | (i, .tmp t) :: r, K => lookTK l t fun v => partsK l r fun vs => K ((i, v) :: vs)
  | (i, x) :: r, K => partsK l r fun vs => K ((i, lookA l x) :: vs)
theorem partsK_eq (l : List (Nat × AV)) : ∀ (ps : List (Nat × Operand)) (K : List (Nat × AV) → Prop), partsK l ps K = K (ps.map fun p => (p.1, lookA l p.2))
  | [], _ => rfl
  | (i, .tmp t) :: r, K => by simp only [partsK, lookTK_eq, partsK_eq l r, List.map_cons]; rfl
  | (i, .const _) :: r, K => by simp only [partsK, partsK_eq l r, List.map_cons]
  | (i, .global _) :: r, K => by simp only [partsK, partsK_eq l r, List.map_cons]
  | (i, .func _) :: r, K => by simp only [partsK, partsK_eq l r, List.map_cons]
def valsK (l : List (Nat × AV)) : List Operand → (List AV → Prop) → Prop
  | [], K => K []
  | .tmp t :: r, K => lookTK l t fun v => valsK l r fun vs => K (v :: vs)
  | x :: r, K => valsK l r fun vs => K (lookA l x :: vs)
theorem valsK_eq (l : List (Nat × AV)) : ∀ (ps : List Operand) (K : List AV → Prop), valsK l ps K = K (ps.map (lookA l))
  | [], _ => rfl
  | .tmp t :: r, K => by simp only [valsK, lookTK_eq, valsK_eq l r, List.map_cons]; rfl
  | .const _ :: r, K => by simp only [valsK, valsK_eq l r, List.map_cons]
  | .global _ :: r, K => by simp only [valsK, valsK_eq l r, List.map_cons]
  | .func _ :: r, K => by simp only [valsK, valsK_eq l r, List.map_cons]
/-- One operand. -/
def opK1 (l : List (Nat × AV)) : Operand → (AV → Prop) → Prop
  | .tmp t, K => lookTK l t K
  | x, K => K (lookA l x)
theorem opK1_eq (l : List (Nat × AV)) (x : Operand) (K : AV → Prop) : opK1 l x K = K (lookA l x) := by
  cases x with
  | tmp t => exact lookTK_eq l t K
  | _ => rfl
/-- An operation, what is built of its operands laid open. -/
def evOpK (P : Program) (flat : TypeId → Option (List Nat)) (nid : Nat) (op : Op) (l : List (Nat × AV)) (K : AM Out → Prop) : Prop :=
  match op with
  | .build t ps => partsK l ps.toList fun vs => K (bldA P t vs)
  | .makeFunc (.func f) a b => valsK l a.toList fun va => valsK l b.toList fun vb => K (.ret (.fn f va vb, .none))
  | .lookup t m k ok => opK1 l m fun m' => opK1 l k fun k' => K (lookupA P t m' k' ok)
  | .mapUpdate t m k v => opK1 l m fun m' => opK1 l k fun k' => opK1 l v fun v' => K (mapUpdateA P t m' k' v')
  | op => K (evOp P flat nid op (lookA l))
theorem evOpK_eq (P : Program) (flat : TypeId → Option (List Nat)) (nid : Nat) (op : Op) (l : List (Nat × AV)) (K : AM Out → Prop) : evOpK P flat nid op l K = K (evOp P flat nid op (lookA l)) := by
  unfold evOpK
  split
  · rw [partsK_eq]
    rfl
  · rw [valsK_eq, valsK_eq]
    rfl
  · rw [opK1_eq, opK1_eq]
    rfl
  · rw [opK1_eq, opK1_eq, opK1_eq]
    rfl
  · rfl

section
variable (E : Env) (call : CallF) (fid : FuncId)
/-- What a call hands back. -/
def callK (f : AV) (as_ : List AV) (h : H) (K : AV → H → Prop) : Prop := ∃ v h', call fid f as_ h = some (.ret v, h') ∧ K v h'
def operK (o : Oper) : ST → (ST → Prop) → Prop
  | ⟨⟨n, t⟩, ⟨bs, esc⟩⟩, K => match o.op with
    | .call { callee := .value f, args, .. } => (opnd ⟨n, t⟩ f).force fun f => opndsK ⟨n, t⟩ args.toList fun vs => callK call fid f vs ⟨bs, esc⟩ fun v h' => putTK ⟨n, t⟩ o.dst v fun t => K ⟨t, h'⟩
    | .panic _ => False
    | op => lenK bs fun nid => readK t op.operands.toList [] fun l => evOpK E.P E.flat nid op l fun m => runK m bs fun _ v w => H.appK ⟨bs, esc⟩ nid w fun h' => putTK ⟨n, t⟩ o.dst v fun t => K ⟨t, h'⟩
theorem operK_sound {o : Oper} {s : ST} {K : ST → Prop} (h : operK E call fid o s K) : ∃ s', evOper E call fid o s = .ok s' ∧ K s' := by
  obtain ⟨⟨n, t⟩, bs, esc⟩ := s
  unfold operK at h
  unfold evOper
  dsimp only at h ⊢
  split at h
  · rename_i f args ts hop
    rw [AV.force_eq, opndsK_eq] at h
    obtain ⟨v, h', h1, h2⟩ := h
    rw [putTK_eq] at h2
    simp only [hop, h1]
    exact ⟨_, rfl, h2⟩
  · exact h.elim
  · rename_i op hc hp
    rw [lenK_eq] at h
    simp only [evOpK_eq] at h
    have h := look_op (n := n) (K := fun m => runK m bs _) h
    obtain ⟨v, w, h1, h2⟩ := runK_sound _ _ _ h
    rw [H.appK_eq, putTK_eq] at h2
    split
    · rename_i f args ts hop
      exact (hc f args ts hop).elim
    · rename_i x hop
      exact (hp x hop).elim
    · simp only [h1]
      exact ⟨_, rfl, h2⟩
def opsK (ops : Array Oper) : List Oper → ST → (ST → Prop) → Prop
  | [], s, K => K s
  | o :: r, ⟨tmps, h⟩, K => wantK ops tmps o (operK E call fid o ⟨tmps, h⟩ fun s' => opsK ops r s' K) (putTK tmps o.dst (.tup []) fun t => opsK ops r ⟨t, h⟩ K)
theorem opsK_sound {ops : Array Oper} : ∀ (l : List Oper) (s : ST) (K : ST → Prop), opsK E call fid ops l s K → ∃ s', evOps E call fid ops l s = some (.normal, s') ∧ K s'
  | [], s, K, h => ⟨s, rfl, h⟩
  | o :: l, ⟨tmps, hh⟩, K, h => by
    unfold opsK at h
    rcases wantK_sound h with ⟨hw, h⟩ | ⟨hw, h⟩
    · obtain ⟨s1, h1, h2⟩ := operK_sound E call fid h
      obtain ⟨s', h3, h4⟩ := opsK_sound l s1 K h2
      exact ⟨s', by simp only [evOps, hw, h1]; exact h3, h4⟩
    · rw [putTK_eq] at h
      obtain ⟨s', h3, h4⟩ := opsK_sound l _ K h
      exact ⟨s', by simp only [evOps, hw]; exact h3, h4⟩

/-! Regions that draw their order. -/
def recCallK (f : AV) (as_ : List AV) (h : H) (K : Rec → Prop) : Prop :=
  match f with
  | .fn g x y => bif cleanL (x ++ as_ ++ y) && !E.raw fid g then callK call fid (.fn g x y) as_ ⟨[], []⟩ fun v _ => v.clean = true ∧ K ⟨[], v, .w .none⟩
    else callK call fid (.fn g x y) as_ h fun v h' => K ⟨[.all], v, .heap h'⟩
  | f' => callK call fid f' as_ h fun v h' => K ⟨[.all], v, .heap h'⟩
theorem recCallK_sound {f : AV} {as_ : List AV} {h : H} {K : Rec → Prop} (hk : recCallK E call fid f as_ h K) : ∃ c, recCall E call fid f as_ h = some c ∧ K c := by
  unfold recCallK at hk
  unfold recCall
  split at hk
  · rename_i g x y
    cases hcl : (cleanL (x ++ as_ ++ y) && !E.raw fid g) with
    | true =>
      rw [hcl, cond_true] at hk
      obtain ⟨v, h', h1, h2, h3⟩ := hk
      simp only [hcl, if_true, h1, h2]
      exact ⟨_, rfl, h3⟩
    | false =>
      rw [hcl, cond_false] at hk
      obtain ⟨v, h', h1, h2⟩ := hk
      simp only [hcl, Bool.false_eq_true, if_false, h1]
      exact ⟨_, rfl, h2⟩
  · rename_i hf
    obtain ⟨v, h', h1, h2⟩ := hk
    split
    · rename_i g x y
      exact (hf g x y rfl).elim
    · simp only [h1]
      exact ⟨_, rfl, h2⟩
def recK (ops : Array Oper) (nid : Nat) (o : Oper) : ST → (Rec → Prop) → Prop
  | ⟨⟨n, t⟩, ⟨bs, esc⟩⟩, K => wantK ops ⟨n, t⟩ o (match o.op with
    | .call { callee := .value f, args, .. } => (opnd ⟨n, t⟩ f).force fun f => opndsK ⟨n, t⟩ args.toList fun vs => recCallK E call fid f vs ⟨bs, esc⟩ K
    | .panic _ => False
    | op => match bs[nid]? with
      | some .void => readK t op.operands.toList [] fun l => evOpK E.P E.flat nid op l fun m => runK m bs fun r v w => K ⟨.blk nid :: r, v, .w w⟩
      | _ => False) (K ⟨[], .tup [], .w .none⟩)
theorem recK_sound {ops : Array Oper} {nid : Nat} {o : Oper} {s : ST} {K : Rec → Prop} (h : recK E call fid ops nid o s K) : ∃ c, recOf E call fid ops nid o s = some c ∧ K c := by
  obtain ⟨⟨n, t⟩, bs, esc⟩ := s
  unfold recK at h
  unfold recOf
  dsimp only at h ⊢
  rcases wantK_sound h with ⟨hw, h⟩ | ⟨hw, h⟩
  · simp only [hw]
    split at h
    · rename_i f args ts hop
      rw [AV.force_eq, opndsK_eq] at h
      obtain ⟨c, h1, h2⟩ := recCallK_sound E call fid h
      simp only [hop, h1]
      exact ⟨_, rfl, h2⟩
    · exact h.elim
    · rename_i op hc hp
      split at h
      · rename_i hv
        simp only [evOpK_eq] at h
        have h := look_op (n := n) (K := fun m => runK m bs fun r v w => K ⟨.blk nid :: r, v, .w w⟩) h
        obtain ⟨v, w, h1, h2⟩ := runK_sound _ _ _ h
        split
        · rename_i f args ts hop
          exact (hc f args ts hop).elim
        · rename_i x hop
          exact (hp x hop).elim
        · simp only [hv, h1]
          exact ⟨_, rfl, h2⟩
      · exact h.elim
  · simp only [hw]
    exact ⟨_, rfl, h⟩
def recAppK : Rec → Nat → Option Tmp → ST → (ST → Prop) → Prop
  | ⟨_, v, .w w⟩, nid, dst, ⟨tmps, h⟩, K => H.appK h nid w fun h' => putTK tmps dst v fun t => K ⟨t, h'⟩
  | ⟨_, v, .heap h'⟩, _, dst, ⟨tmps, _⟩, K => putTK tmps dst v fun t => K ⟨t, h'⟩
theorem recAppK_eq (r : Rec) (nid : Nat) (dst : Option Tmp) (s : ST) (K : ST → Prop) : recAppK r nid dst s K = K (r.app nid dst s) := by
  obtain ⟨rd, v, w⟩ := r
  obtain ⟨tmps, h⟩ := s
  cases w with
  | w w => simp only [recAppK, H.appK_eq, putTK_eq]; rfl
  | heap h => simp only [recAppK, putTK_eq]; rfl
def drawK (ops : Array Oper) (base : Nat) : List (Nat × Oper) → ST → (List (Nat × Rec × H) → ST → Prop) → Prop
  | [], s, K => K [] s
  | (i, o) :: r, ⟨tmps, h⟩, K => recK E call fid ops (base + i) o ⟨tmps, h⟩ fun c => recAppK c (base + i) o.dst ⟨tmps, h⟩ fun s' => drawK ops base r s' fun l s'' => K ((i, c, h) :: l) s''
theorem drawK_sound {ops : Array Oper} {base : Nat} : ∀ (l : List (Nat × Oper)) (s : ST) (K : List (Nat × Rec × H) → ST → Prop), drawK E call fid ops base l s K → ∃ L s', drawRun E call fid ops base l s = some (L, s') ∧ K L s'
  | [], s, K, h => ⟨[], s, rfl, h⟩
  | (i, o) :: r, ⟨tmps, hh⟩, K, h => by
    unfold drawK at h
    obtain ⟨c, h1, h2⟩ := recK_sound E call fid h
    rw [recAppK_eq] at h2
    obtain ⟨L, s', h3, h4⟩ := drawK_sound r _ _ h2
    exact ⟨_, s', by simp only [drawRun, h1, h3], h4⟩
def drawnK (ops : Array Oper) : ST → (ST → Prop) → Prop
  | ⟨tmps, ⟨bs, esc⟩⟩, K => lenK bs fun base => listK (bs ++ List.replicate ops.size AB.void) fun bs' => drawK E call fid ops base (ops.toList.zipIdx.map fun p => (p.2, p.1)) ⟨tmps, ⟨bs', esc⟩⟩ fun l s' =>
    (orderOk ops && drawOk ops base (Region.before ops) l) = true ∧ K s'
theorem drawnK_sound {ops : Array Oper} {s : ST} {K : ST → Prop} (h : drawnK E call fid ops s K) : ∃ s', evDrawn E call fid ops s = some (.normal, s') ∧ K s' := by
  obtain ⟨tmps, bs, esc⟩ := s
  unfold drawnK at h
  dsimp only at h
  rw [lenK_eq, listK_eq] at h
  obtain ⟨L, s', h1, h2, h3⟩ := drawK_sound E call fid _ _ _ h
  exact ⟨s', by unfold evDrawn; simp only [h1, h2, if_true], h3⟩

def RG.keepK : RG → List Nat → (RG → Prop) → Prop
  | ⟨n, _⟩, [], K => K (RG.empty n)
  | ⟨n, t⟩, k :: ks, K => t.getK (k + 1) fun v => RG.keepK ⟨n, t⟩ ks fun r => r.putK k v K
theorem RG.keepK_eq (r : RG) : ∀ (ks : List Nat) (K : RG → Prop), r.keepK ks K = K (r.keep ks)
  | [], _ => by cases r; rfl
  | k :: ks, K => by
    obtain ⟨n, t⟩ := r
    simp only [RG.keepK, RT.getK_eq, RG.keepK_eq ⟨n, t⟩ ks, RG.putK_eq]
    rfl
/-- The state at a loop's head. -/
def normK (ks : Option (List Nat)) (n : Nat) : ST → (ST → Prop) → Prop
  | ⟨tmps, ⟨bs, esc⟩⟩, K => match ks with
    | none => K ⟨tmps, ⟨bs, esc⟩⟩
    | some ks => tmps.keepK ks fun tmps' => match Nat.ble bs.length n with
      | true => K ⟨tmps', ⟨bs, esc⟩⟩
      | false => listK (ST.norm (some ks) n ⟨tmps, ⟨bs, esc⟩⟩).h.bs fun bs' => listK (ST.norm (some ks) n ⟨tmps, ⟨bs, esc⟩⟩).h.esc fun esc' => K ⟨tmps', ⟨bs', esc'⟩⟩
theorem normK_eq (ks : Option (List Nat)) (n : Nat) (s : ST) (K : ST → Prop) : normK ks n s K = K (s.norm ks n) := by
  obtain ⟨tmps, bs, esc⟩ := s
  cases ks with
  | none => rfl
  | some ks =>
    simp only [normK, RG.keepK_eq, listK_eq]
    split
    · rename_i hb
      have hb := Nat.le_of_ble_eq_true hb
      unfold ST.norm
      dsimp only
      rw [if_pos (Nat.le_trans hb (Nat.le_max_left ..))]
    · congr 1
      unfold ST.norm
      dsimp only
      split
      · rfl
      · split <;> rfl
/-- So many rounds of a loop. -/
def roundsK (f : ST → (AX → ST → Prop) → Prop) (nm : ST → (ST → Prop) → Prop) (Q : AX → ST → Prop) : Nat → ST → Prop
  | 0, _ => False
  | m + 1, s => nm s fun s => f s fun x s' => match x with
    | .normal => roundsK f nm Q m s'
    | x => Q x s'
theorem roundsK_sound {f : ST → (AX → ST → Prop) → Prop} {g : ST → Option (AX × ST)} (hf : ∀ s Q, f s Q → ∃ x s', g s = some (x, s') ∧ Q x s') {ks : Option (List Nat)} {n : Nat} {Q : AX → ST → Prop} :
    ∀ (m : Nat) (s : ST), roundsK f (normK ks n) Q m s → ∃ x s', evLoop g (ST.norm ks n) m s = some (x, s') ∧ Q x s'
  | 0, _, h => h.elim
  | m + 1, s, h => by
    unfold roundsK at h
    rw [normK_eq] at h
    obtain ⟨x, s1, h1, h2⟩ := hf _ _ h
    cases x with
    | normal =>
      obtain ⟨x, s', h3, h4⟩ := roundsK_sound hf m s1 h2
      exact ⟨x, s', by simp only [evLoop, h1]; exact h3, h4⟩
    | _ => exact ⟨_, s1, by simp only [evLoop, h1], h2⟩
/-- A loop whose state is told by a letter. -/
theorem rounds_ind {α : Type} {f : ST → (AX → ST → Prop) → Prop} {ks : Option (List Nat)} {n : Nat} {Q : AX → ST → Prop} (S : α → ST) (I : α → Prop) (μ : α → Nat)
    (step : ∀ a m, I a → (∀ a' s', I a' → μ a' < μ a → s'.norm ks n = S a' → roundsK f (normK ks n) Q m s') → f (S a) fun x s' => match x with
      | .normal => roundsK f (normK ks n) Q m s'
      | x => Q x s') : ∀ (m : Nat) (a : α) (s : ST), I a → μ a < m → s.norm ks n = S a → roundsK f (normK ks n) Q m s := by
  intro m
  induction m with
  | zero => intro a s _ h _; omega
  | succ m ih =>
    intro a s hI hμ hs
    unfold roundsK
    rw [normK_eq, hs]
    exact step a m hI fun a' s' h1 h2 h3 => ih a' s' h1 (by omega) h3
theorem evLoop_more {g : ST → Option (AX × ST)} {nm : ST → ST} {r : AX × ST} : ∀ (m k : Nat) (s : ST), m ≤ k → evLoop g nm m s = some r → evLoop g nm k s = some r
  | 0, _, _, _, h => by simp [evLoop] at h
  | m + 1, k, s, hk, h => by
    obtain ⟨k, rfl⟩ : ∃ j, k = j + 1 := ⟨k - 1, by omega⟩
    simp only [evLoop] at h ⊢
    cases hg : g (nm s) with
    | none => rw [hg] at h; exact h
    | some p =>
      obtain ⟨x, s'⟩ := p
      rw [hg] at h
      cases x with
      | normal => exact evLoop_more m k s' (by omega) h
      | _ => exact h
/-- Jumps to the labels of a scope. -/
def jumpsK (jmp : Code → ST → Option (AX × ST)) (body : Code) (Q : AX → ST → Prop) (m : Nat) (l : Nat) (s : ST) : Prop := ∃ x s', evJumps jmp body m l s = some (x, s') ∧ Q x s'

/-- What holds behind some code. -/
def codeK (jmp : JumpF) (rd : Bool) : Code → ST → (AX → ST → Prop) → Prop
  | .skip, s, Q => Q .normal s
  | .region _ ops draw, s, Q => bif draw then drawnK E call fid ops s (Q .normal) else opsK E call fid ops ops.toList s (Q .normal)
  | .seq a b, s, Q => codeK jmp rd a s fun x s' => match x with
    | .normal => codeK jmp rd b s' Q
    | x => Q x s'
  | .cond c a b, ⟨tmps, h⟩, Q => match opnd tmps c with
    | .bool t => bif t then codeK jmp rd a ⟨tmps, h⟩ Q else codeK jmp rd b ⟨tmps, h⟩ Q
    | _ => False
  | .block id b, s, Q => codeK jmp rd b s fun x s' => match x with
    | .exit id' => bif Nat.beq id' id then Q .normal s' else Q (.exit id') s'
    | x => Q x s'
  | .exit id, s, Q => Q (.exit id) s
  | .label _, s, Q => Q .normal s
  | .goto l, s, Q => Q (.goto l) s
  | .ret, s, Q => Q .ret s
  | .loop b, ⟨tmps, ⟨bs, esc⟩⟩, Q => ∃ m, m ≤ E.fuel ∧ roundsK (codeK jmp rd b) (normK (E.keep fid (firstR b)) bs.length) Q m ⟨tmps, ⟨bs, esc⟩⟩
  | .scope b, s, Q => codeK jmp rd b s fun x s' => match x with
    | .goto l => jumpsK (jmp rd fid) b Q E.fuel l s'
    | x => Q x s'
  | c, s, Q => ∃ x s', evCode E call jmp rd fid c s = some (x, s') ∧ Q x s'
variable {jmp : JumpF} {rd : Bool}
theorem codeK_sound : ∀ (c : Code) (s : ST) (Q : AX → ST → Prop), codeK E call fid jmp rd c s Q → ∃ x s', evCode E call jmp rd fid c s = some (x, s') ∧ Q x s'
  | .skip, s, Q, h => ⟨_, _, rfl, h⟩
  | .region id ops draw, s, Q, h => by
    unfold codeK at h
    cases draw with
    | true =>
      obtain ⟨s', h1, h2⟩ := drawnK_sound E call fid h
      exact ⟨_, s', h1, h2⟩
    | false =>
      obtain ⟨s', h1, h2⟩ := opsK_sound E call fid _ _ _ h
      exact ⟨_, s', h1, h2⟩
  | .seq a b, s, Q, h => by
    unfold codeK at h
    obtain ⟨x, s1, h1, h2⟩ := codeK_sound a s _ h
    cases x with
    | normal =>
      obtain ⟨x', s', h3, h4⟩ := codeK_sound b s1 Q h2
      exact ⟨x', s', by simp only [evCode, h1]; exact h3, h4⟩
    | _ => exact ⟨_, s1, by simp only [evCode, h1], h2⟩
  | .cond c a b, ⟨tmps, hh⟩, Q, h => by
    unfold codeK at h
    split at h
    · rename_i t ht
      cases t with
      | true =>
        obtain ⟨x', s', h3, h4⟩ := codeK_sound a _ Q h
        exact ⟨x', s', by simp only [evCode, ht, if_true]; exact h3, h4⟩
      | false =>
        obtain ⟨x', s', h3, h4⟩ := codeK_sound b _ Q h
        exact ⟨x', s', by simp only [evCode, ht, Bool.false_eq_true, if_false]; exact h3, h4⟩
    · exact h.elim
  | .block id b, s, Q, h => by
    unfold codeK at h
    obtain ⟨x, s1, h1, h2⟩ := codeK_sound b s _ h
    cases x with
    | exit id' =>
      simp only at h2
      cases hb : Nat.beq id' id with
      | true =>
        rw [hb, cond_true] at h2
        exact ⟨_, s1, by simp only [evCode, h1, if_pos (Nat.eq_of_beq_eq_true hb)], h2⟩
      | false =>
        rw [hb, cond_false] at h2
        have hne : id' ≠ id := fun e => by subst e; simp at hb
        exact ⟨_, s1, by simp only [evCode, h1, if_neg hne], h2⟩
    | _ => exact ⟨_, s1, by simp only [evCode, h1], h2⟩
  | .exit id, s, Q, h => ⟨_, _, rfl, h⟩
  | .label l, s, Q, h => ⟨_, _, rfl, h⟩
  | .goto l, s, Q, h => ⟨_, _, rfl, h⟩
  | .ret, s, Q, h => ⟨_, _, rfl, h⟩
  | .loop b, ⟨tmps, ⟨bs, esc⟩⟩, Q, h => by
    unfold codeK at h
    obtain ⟨m, hm, h⟩ := h
    obtain ⟨x, s', h1, h2⟩ := roundsK_sound (fun s Q => codeK_sound b s Q) m _ h
    exact ⟨x, s', evLoop_more m _ _ hm h1, h2⟩
  | .rangeFunc .., s, Q, h => h
  | .scope b, s, Q, h => by
    unfold codeK at h
    obtain ⟨x, s1, h1, h2⟩ := codeK_sound b s _ h
    cases x with
    | goto l =>
      obtain ⟨x, s', h3, h4⟩ := h2
      exact ⟨x, s', by simp only [evCode, h1]; exact h3, h4⟩
    | _ => exact ⟨_, s1, by simp only [evCode, h1], h2⟩
  | .refuse m, s, Q, h => h
end

/-- Slots by their numbers. -/
def treeOf : List (Nat × AV) → RT → RT
  | [], t => t
  | (i, v) :: l, t => treeOf l (t.put v (i + 1))
def RG.of (n : Nat) (l : List (Nat × AV)) : RG := ⟨n, treeOf l (RT.mk (digs 20 n + 1))⟩
/-! Operations with letters. -/
theorem runK_ret {m : AM Out} {h : List AB} {K : List RL → AV → WL → Prop} {v : AV} {w : WL} (hm : m = .ret (v, w)) (hk : K [] v w) : runK m h K := by
  rw [hm]
  unfold runK
  rw [AV.force_eq]
  exact hk
theorem runK_if {c : Prop} [Decidable c] {a b : AM Out} {h : List AB} {K : List RL → AV → WL → Prop} (hc : c) (hk : runK a h K) : runK (if c then a else b) h K := by
  rw [if_pos hc]
  exact hk
theorem runK_cell {b off : Nat} {k : AV → AM Out} {h : List AB} {K : List RL → AV → WL → Prop} {c : List AV} {i : BI} {v : AV} (hb : h[b]? = some (.cells c i)) (hc : c[off]? = some v) (hk : runK (k v) h fun r => K (.cells b off 1 :: r)) : runK (.cell b off k) h K := by
  unfold runK
  simp only [hb, hc]
  exact hk
theorem runK_cells {b off n : Nat} {k : List AV → AM Out} {h : List AB} {K : List RL → AV → WL → Prop} {c cs : List AV} {i : BI} (hb : h[b]? = some (.cells c i)) (hl : off + n ≤ c.length) (hc : (c.drop off).take n = cs) (hk : runK (k cs) h fun r => K (.cells b off n :: r)) : runK (.cells b off n k) h K := by
  unfold runK
  simp only [hb, if_pos hl, hc]
  exact hk
theorem listK_of {α : Type} {l l' : List α} {K : List α → Prop} (h : l = l') (hk : K l') : listK l K := by
  rw [listK_eq, h]
  exact hk
section ops
variable {P : Program} {flat : TypeId → Option (List Nat)} {nid : Nat} {ρ : Operand → AV}
theorem ev_indexSl {t e : TypeId} {sz : Nat} {a b : Operand} {cells : List AV} {n : Nat} {tight : Bool} {k : IntKind} {i : Int} (ht : P.underlying t = some (.slice e)) (hs : szOf P e = some sz) (ha : ρ a = .sl cells n tight) (hb : ρ b = .int k i) (h0 : 0 ≤ i) (h1 : i < n) :
    evOp P flat nid (.indexAddr t a b) ρ = .ret (.vref cells (i.toNat * sz), .none) := by
  simp only [evOp, indexAddrA, ha, hb, ht, hs, pur]
  rw [if_pos ⟨h0, h1⟩]
theorem ev_loadV {t : TypeId} {z off : Nat} {a : Operand} {cells : List AV} {v : AV} (hg : isAggA P t = some false) (hs : szOf P t = some z) (ha : ρ a = .vref cells off) (hc : cells[off]? = some v) : evOp P flat nid (.load t a) ρ = .ret (v, .none) := by
  simp only [evOp, loadA, hg, hs, ha, hc, pur]
theorem ev_loadVA {t : TypeId} {z off : Nat} {a : Operand} {cells cs : List AV} (hg : isAggA P t = some true) (hs : szOf P t = some z) (ha : ρ a = .vref cells off) (hl : off + z ≤ cells.length) (hc : (cells.drop off).take z = cs) : evOp P flat nid (.load t a) ρ = .ret (.agg cs, .none) := by
  simp only [evOp, loadA, hg, hs, ha, hc]
  rw [if_pos hl]
theorem runK_store {t : TypeId} {z b off ver : Nat} {a v : Operand} {vs c : List AV} {i : BI} {h : List AB} {K : List RL → AV → WL → Prop} (ha : ρ a = .ref b off ver) (hv : (ρ v).toCells = some vs) (hs : szOf P t = some z) (hl : vs.length = z) (ho : oneL vs = true)
    (hb : h[b]? = some (.cells c i)) (hver : ver = verA i c.length) (hw : i.wr = true) (hn : off + z ≤ c.length) (hcl : i.cl = false ∨ cleanL vs = true) (hk : K [.info b] (.tup []) (.put b off vs)) : runK (evOp P flat nid (.store t a v) ρ) h K := by
  simp only [evOp, storeA, ha, hv, hs]
  rw [if_pos ⟨hl, ho⟩]
  unfold runK
  simp only [hb]
  rw [if_pos ⟨hver, hw, hn, hcl⟩]
  exact runK_ret rfl hk
theorem ev_makeSlice {t e : TypeId} {sz by_ : Nat} {z : List AV} {a b : Operand} {k k' : IntKind} {x y : Int} (ht : P.underlying t = some (.slice e)) (hs : szOf P e = some sz) (hb : bytesA P e = some by_) (hz : zeroCellsA P e = some z) (ha : ρ a = .int k x) (hy : ρ b = .int k' y)
    (h0 : 0 ≤ x) (h1 : x ≤ y) (h2 : y ≤ 140737488355328) (h3 : by_ * y ≤ 140737488355328) (h4 : z.length = sz) (h5 : 0 < sz) (h6 : oneL z = true) :
    evOp P flat nid (.makeSlice t a b) ρ = .ret (.rsl nid 0 x.toNat (some y.toNat) 0, .new (.cells (repCells y.toNat z) ⟨cleanL z && plainL z, sz, false, true⟩)) := by
  simp only [evOp, makeSliceA, ht, ha, hy, hs, hb, hz]
  rw [if_pos ⟨h0, h1, h2, h3, h4, h5, h6⟩]
theorem ev_indexRsl {t e : TypeId} {sz : Nat} {a b : Operand} {bb off n ver : Nat} {cap : Option Nat} {k : IntKind} {i : Int} (ht : P.underlying t = some (.slice e)) (hs : szOf P e = some sz) (ha : ρ a = .rsl bb off n cap ver) (hb : ρ b = .int k i) (h0 : 0 ≤ i) (h1 : i < n) :
    evOp P flat nid (.indexAddr t a b) ρ = .ret (.ref bb (off + i.toNat * sz) ver, .none) := by
  simp only [evOp, indexAddrA, ha, hb, ht, hs, pur]
  rw [if_pos ⟨h0, h1⟩]
/-- A slice that nobody writes, of n elements. -/
def slOk (v : AV) (n : Nat) : Prop := (v = .sl0 ∧ n = 0) ∨ ∃ c t, v = .sl c n t
theorem slOk.one {v : AV} {n : Nat} (h : slOk v n) : oneA v = true := by
  rcases h with ⟨rfl, _⟩ | ⟨c, t, rfl⟩ <;> rfl
theorem slOk.cl {v : AV} {n : Nat} (h : slOk v n) : v.clean = true := by
  rcases h with ⟨rfl, _⟩ | ⟨c, t, rfl⟩ <;> rfl
end ops

/-! What is handed back. -/
def resK (P : Program) : ST → List ResultVar → (List AV → Prop) → Prop
  | _, [], K => K []
  | ⟨tmps, h⟩, .tmp t :: r, K => tmps.t.getK (t + 1) fun v => resK P ⟨tmps, h⟩ r fun vs => K (v :: vs)
  | ⟨tmps, h⟩, .cell a t :: r, K => tmps.t.getK (a + 1) fun v => runK (loadA P t v) h.bs fun _ u _ => resK P ⟨tmps, h⟩ r fun vs => K (u :: vs)
theorem resK_sound {P : Program} : ∀ (l : List ResultVar) (s : ST) (K : List AV → Prop), resK P s l K → ∃ vs, resA P s l = some vs ∧ K vs
  | [], _, _, h => ⟨[], rfl, h⟩
  | .tmp t :: r, ⟨tmps, hh⟩, K, h => by
    unfold resK at h
    rw [RT.getK_eq] at h
    obtain ⟨vs, h1, h2⟩ := resK_sound r _ _ h
    exact ⟨_, by simp only [resA, h1, Option.map_some]; rfl, h2⟩
  | .cell a t :: r, ⟨tmps, hh⟩, K, h => by
    unfold resK at h
    rw [RT.getK_eq] at h
    obtain ⟨u, w, h1, h2⟩ := runK_sound _ _ _ h
    obtain ⟨vs, h3, h4⟩ := resK_sound r _ _ h2
    refine ⟨u :: vs, ?_, h4⟩
    have e : tmps.t.get (a + 1) = tmps.get a := rfl
    rw [e] at h1
    simp only [resA, h1, h3, Option.map_some]
/-- The blocks laid open. -/
def leaveK (raw : Bool) (n : Nat) (v : AV) (h : H) (K : AV → H → Prop) : Prop :=
  (leaveA raw n v h).1.force fun v' => listK (leaveA raw n v h).2.bs fun bs => listK (leaveA raw n v h).2.esc fun e => K v' ⟨bs, e⟩
theorem leaveK_eq (raw : Bool) (n : Nat) (v : AV) (h : H) (K : AV → H → Prop) : leaveK raw n v h K = K (leaveA raw n v h).1 (leaveA raw n v h).2 := by
  unfold leaveK
  rw [AV.force_eq, listK_eq, listK_eq]
def putsK : RG → Nat → List AV → (RG → Prop) → Prop
  | ⟨n, t⟩, _, [], K => K ⟨n, t⟩
  | ⟨n, t⟩, i, v :: l, K => RG.putK ⟨n, t⟩ i v fun r => putsK r (i + 1) l K
theorem putsK_eq : ∀ (l : List AV) (r : RG) (i : Nat) (K : RG → Prop), putsK r i l K = K (r.puts i l)
  | [], ⟨n, t⟩, _, _ => rfl
  | v :: l, ⟨n, t⟩, i, K => by
    simp only [putsK, RG.putK_eq, putsK_eq l, RG.puts]
/-- How a body ends. -/
def endK (P : Program) (fn : Func) (raw : Bool) (n : Nat) (K : AV → H → Prop) (x : AX) (s : ST) : Prop :=
  match x with
  | .normal => resK P s fn.results.toList fun vs => leaveK raw n (asOne vs) s.h K
  | .ret => resK P s fn.results.toList fun vs => leaveK raw n (asOne vs) s.h K
  | _ => False
theorem body_endK {E : Env} {call : CallF} {jmp : JumpF} {raw : Bool} {f : FuncId} {fn : Func} {c : Code} {args : List AV} {h : H} {K : AV → H → Prop} (hn : args.length ≤ fn.ntmps)
    (hwp : putsK (RG.empty fn.ntmps) 0 args fun r => codeK E call f jmp false c ⟨r, h⟩ (endK E.P fn raw h.bs.length K)) : ∃ v h', evBody E call jmp raw f fn c args h = some (.ret v, h') ∧ K v h' := by
  rw [putsK_eq] at hwp
  obtain ⟨x, s', h1, h2⟩ := codeK_sound _ _ _ _ _ _ hwp
  have hbody : resK E.P s' fn.results.toList (fun vs => leaveK raw h.bs.length (asOne vs) s'.h K) → (x = .normal ∨ x = .ret) → ∃ v h', evBody E call jmp raw f fn c args h = some (.ret v, h') ∧ K v h' := by
    intro hr hx
    obtain ⟨vs, h3, h4⟩ := resK_sound _ _ _ hr
    rw [leaveK_eq] at h4
    refine ⟨_, _, ?_, h4⟩
    unfold evBody
    rw [if_pos hn]
    rcases hx with rfl | rfl <;> simp only [h1, h3] <;> rfl
  cases x with
  | normal => exact hbody h2 (.inl rfl)
  | ret => exact hbody h2 (.inr rfl)
  | _ => exact h2.elim

theorem argsA_clean : ∀ (l : List AV) (bs : List AB), cleanL l = true → argsA bs l = (l, bs) := by
  intro l
  induction l with
  | nil => intros; rfl
  | cons a l ih =>
    intro bs hl
    simp only [cleanL, Bool.and_eq_true] at hl
    have ha : argA bs a = (a, bs) := by
      cases a <;> first | rfl | (simp [AV.clean] at hl)
    simp only [argsA, ha, ih bs hl.2]
/-- A row that is handed over is written no more. -/
theorem argA_rsl {bs : List AB} {b off n ver : Nat} {cap : Option Nat} {c : List AV} {i : BI} (hb : bs[b]? = some (.cells c i)) (hv : ver = verA i c.length) (hw : i.wr = true) (hcl : i.cl = true) (hl : off + n * i.sz ≤ c.length) (hz : 0 < i.sz) :
    argA bs (.rsl b off n cap ver) = (.sl ((c.drop off).take (n * i.sz)) n (tightA cap n), bs.set b (.cells c { i with wr := false })) := by
  have hs : ∀ deep, sealB deep bs b ver = some (c, i, bs.set b (.cells c { i with wr := false })) := by
    intro deep
    unfold sealB
    simp only [hb, hw, hcl, if_true, Bool.true_eq_false, if_false]
    rw [if_pos hv]
  unfold argA AV.seal
  simp only [sealV, hs]
  rw [if_pos ⟨hl, hz⟩]
  congr 2
  split
  · rename_i h
    rw [h.1, List.drop_zero, ← h.2, List.take_length]
  · rfl
/-- A call whose arguments are handed over as values. -/
theorem call_args {E : Env} {n : Nat} {from_ f : FuncId} {x y as_ : List AV} {h : H} (hraw : E.raw from_ f = false) (hcl : cleanL (argsA h.bs as_).1 = true) (hlend : E.lend f = false := by rfl) :
    evCall E (n + 1) from_ (.fn f x y) as_ h = evCall E (n + 1) from_ (.fn f x y) (argsA h.bs as_).1 { h with bs := (argsA h.bs as_).2 } := by
  show stepCall E _ _ from_ (.fn f x y) as_ h = stepCall E _ _ from_ (.fn f x y) (argsA h.bs as_).1 { h with bs := (argsA h.bs as_).2 }
  unfold stepCall stepCall0
  simp only [hlend, Bool.false_and, hraw, Bool.false_eq_true, if_false, argsA_clean _ _ hcl]
/-- A call of arguments that name no block. -/
theorem call_clean {E : Env} {n : Nat} {from_ f : FuncId} {fn : Func} {c : Code} {x y args : List AV} {v : AV} {h : H} (hok : E.ok f = true) (hf : E.P.funcs[f]? = some fn) (hb : fn.body = some c) (hraw : E.raw from_ f = false) (hcl : cleanL (x ++ args ++ y) = true) (hv : v.clean = true)
    (hsum : E.sum f (x ++ args ++ y) = none) (hn : (x ++ args ++ y).length ≤ fn.ntmps)
    (hwp : putsK (RG.empty fn.ntmps) 0 (x ++ args ++ y) fun r => codeK E (evAll E n).1 f (evAll E n).2 false c ⟨r, ⟨[], []⟩⟩ (endK E.P fn false 0 fun v' _ => v' = v)) : evCall E (n + 1) from_ (.fn f x y) args h = some (.ret v, h) := by
  obtain ⟨v', h', hk, rfl⟩ := body_endK hn hwp
  have hcl' : cleanL args = true := by
    rw [cleanL_app, cleanL_app, Bool.and_eq_true, Bool.and_eq_true] at hcl
    exact hcl.1.2
  show stepCall E (evAll E n).1 (evAll E n).2 from_ (.fn f x y) args h = _
  unfold stepCall stepCall0
  simp only [hcl', Bool.not_true, Bool.and_false, hraw, argsA_clean args h.bs hcl', hok, hf, hb, hcl, hsum, hk, hv, Bool.false_eq_true, if_false, Bool.not_false, Bool.and_true, if_true]
/-- The same, of a value of which something is told. -/
theorem call_cleanP {E : Env} {n : Nat} {f : FuncId} {fn : Func} {c : Code} {x y args : List AV} {R : AV → Prop} (hok : E.ok f = true) (hf : E.P.funcs[f]? = some fn) (hb : fn.body = some c) (hraw : ∀ g, E.raw g f = false) (hcl : cleanL (x ++ args ++ y) = true)
    (hsum : E.sum f (x ++ args ++ y) = none) (hn : (x ++ args ++ y).length ≤ fn.ntmps)
    (hwp : putsK (RG.empty fn.ntmps) 0 (x ++ args ++ y) fun r => codeK E (evAll E n).1 f (evAll E n).2 false c ⟨r, ⟨[], []⟩⟩ (endK E.P fn false 0 fun v _ => v.clean = true ∧ R v)) : ∃ v, R v ∧ ∀ (from_ : FuncId) (h : H), evCall E (n + 1) from_ (.fn f x y) args h = some (.ret v, h) := by
  obtain ⟨v', h', hk, hv, hR⟩ := body_endK hn hwp
  have hcl' : cleanL args = true := by
    rw [cleanL_app, cleanL_app, Bool.and_eq_true, Bool.and_eq_true] at hcl
    exact hcl.1.2
  refine ⟨v', hR, fun from_ h => ?_⟩
  show stepCall E (evAll E n).1 (evAll E n).2 from_ (.fn f x y) args h = _
  unfold stepCall stepCall0
  simp only [hcl', Bool.not_true, Bool.and_false, hraw, argsA_clean args h.bs hcl', hok, hf, hb, hcl, hsum, hk, hv, Bool.false_eq_true, if_false, Bool.not_false, Bool.and_true, if_true]
/-- A call that is walked where it stands: of a function that hands back blocks that may be written. -/
theorem call_raw {E : Env} {n : Nat} {from_ f : FuncId} {fn : Func} {c : Code} {x y args : List AV} {h : H} {K : AV → H → Prop} (hok : E.ok f = true) (hf : E.P.funcs[f]? = some fn) (hb : fn.body = some c) (hraw : E.raw from_ f = true) (hn : (x ++ args ++ y).length ≤ fn.ntmps)
    (hwp : putsK (RG.empty fn.ntmps) 0 (x ++ args ++ y) fun r => codeK E (evAll E n).1 f (evAll E n).2 false c ⟨r, h⟩ (endK E.P fn true h.bs.length K)) (hlend : E.lend f = false := by rfl) : ∃ v h', evCall E (n + 1) from_ (.fn f x y) args h = some (.ret v, h') ∧ K v h' := by
  obtain ⟨v', h', hk, hK⟩ := body_endK hn hwp
  refine ⟨v', h', ?_, hK⟩
  show stepCall E (evAll E n).1 (evAll E n).2 from_ (.fn f x y) args h = _
  unfold stepCall stepCall0
  simp only [hlend, Bool.false_and, hraw, hok, hf, hb, hk, Bool.not_true, Bool.and_false, Bool.false_eq_true, if_false, if_true]

/-- A call of a function that its arguments are lent to. -/
theorem call_lend {E : Env} {n : Nat} {from_ f : FuncId} {x y as_ as1 : List AV} {v : AV} {h : H} (hlend : E.lend f = true) (hcl : cleanL as_ = false) (ha : lendL 4 h.bs as_ = as1) (hc : cleanL (x ++ as1 ++ y) = true) (hf : v.flat = true)
    (hev : evCall E (n + 1) from_ (.fn f x y) as1 ⟨[], []⟩ = some (.ret v, ⟨[], []⟩)) : evCall E (n + 1) from_ (.fn f x y) as_ h = some (.ret v, h) := by
  have hc1 : cleanL as1 = true := by
    rw [cleanL_app, cleanL_app, Bool.and_eq_true, Bool.and_eq_true] at hc
    exact hc.1.2
  have hev : stepCall E (evAll E n).1 (evAll E n).2 from_ (.fn f x y) as1 ⟨[], []⟩ = some (.ret v, ⟨[], []⟩) := hev
  show stepCall E (evAll E n).1 (evAll E n).2 from_ (.fn f x y) as_ h = _
  unfold stepCall at hev ⊢
  simp only [hc1, Bool.not_true, Bool.and_false, Bool.false_eq_true, if_false] at hev
  simp only [hlend, hcl, Bool.not_false, Bool.and_true, if_true, ha, hc, hev, hf]
/-- What the machine does, from what the abstract one says. -/
theorem law_calls {E : Env} (hE : EnvOk E) (hs : SumOk E) {n : Nat} {from_ f : FuncId} {args : List AV} {v : AV} {h' : H} (hev : evCall E n from_ (.fn f [] []) args ⟨[], []⟩ = some (.ret v, h')) {W : World} {vals : List Value} (ha : RepPL (fun c => c < W.heap.size) W.heap args vals) :
    Calls E.P f vals.toArray W fun e W' => ∃ (u : Value) (K' : KS), e = .returned u ∧ RepV K' h'.bs W'.heap v u ∧ Goes { I := fun c => c < W.heap.size, β := id, κ := id } [] W K' h'.bs W' := by
  have hr : HR { I := fun c => c < W.heap.size, β := id, κ := id } [] W.heap := hr_nil (bs := []) ⟨fun b b' x x' h => by simp at h, fun b x h => by simp at h, fun c hc => hc, fun b x h => by simp at h, fun b c i h => by simp at h⟩
  rcases evCall_sound hE hs n _ _ _ _ _ _ _ _ _ _ hev hr esc_nil (.fn .nil .nil) (.of_clean ha) with ⟨f', first, cap, hf, _, hc⟩ | ⟨l, _, _, _, _, hf, _⟩
  · cases hf
    simp only [Array.append_empty, Array.empty_append] at hc
    refine hc.mono fun e W' hd => ?_
    obtain ⟨K', g1, _, g3⟩ := hd
    cases e with
    | returned u => exact ⟨u, K', rfl, g3, g1⟩
    | _ => exact g3.elim
  · cases hf
theorem goes_block {K K' : KS} {bs' : List AB} {w w' : World} (h : Goes K [] w K' bs' w') : ∀ c, c < w.heap.size → w'.heap[c]? = w.heap[c]? :=
  fun c hc => h.tr.keep c hc fun hi => by
    obtain ⟨b, x, hx, _⟩ := hi
    simp at hx

/-- A call that is walked where it stands, its rows handed over: of a function that bears what names blocks. -/
theorem call_inline {E : Env} {n : Nat} {from_ f : FuncId} {fn : Func} {c : Code} {x y as_ : List AV} {h : H} {K : AV → H → Prop} (hok : E.ok f = true) (hf : E.P.funcs[f]? = some fn) (hb : fn.body = some c) (hraw : E.raw from_ f = false)
    (hwp : listK (argsA h.bs as_).1 fun as1 => listK (argsA h.bs as_).2 fun bs1 => listK h.esc fun esc => lenK bs1 fun base => match cleanL (x ++ as1 ++ y), Nat.ble (x ++ as1 ++ y).length fn.ntmps with
      | false, true => putsK (RG.empty fn.ntmps) 0 (x ++ as1 ++ y) fun r => codeK E (evAll E n).1 f (evAll E n).2 false c ⟨r, ⟨bs1, esc⟩⟩ (endK E.P fn false base K)
      | _, _ => False) (hlend : E.lend f = false := by rfl) : ∃ v h', evCall E (n + 1) from_ (.fn f x y) as_ h = some (.ret v, h') ∧ K v h' := by
  simp only [listK_eq, lenK_eq] at hwp
  split at hwp
  · rename_i hcl hl
    have hl := Nat.le_of_ble_eq_true hl
    obtain ⟨v', h', hk, hK⟩ := body_endK hl (h := { h with bs := (argsA h.bs as_).2 }) hwp
    refine ⟨v', h', ?_, hK⟩
    show stepCall E (evAll E n).1 (evAll E n).2 from_ (.fn f x y) as_ h = _
    unfold stepCall stepCall0
    simp only [hlend, Bool.false_and, hraw, hok, hf, hb, hk, hcl, Bool.not_false, Bool.and_true, Bool.false_eq_true, if_false, if_true]
  · exact hwp.elim

/-! Loops over a function. -/
def trimK (h : H) (n : Nat) (K : H → Prop) : Prop := listK (H.trim h n).bs fun bs => listK (H.trim h n).esc fun esc => K ⟨bs, esc⟩
theorem trimK_eq (h : H) (n : Nat) (K : H → Prop) : trimK h n K = K (H.trim h n) := by
  unfold trimK
  rw [listK_eq, listK_eq]
def rangeEndK (tmps : RG) (b : Nat) (h' : H) (Q : AX → ST → Prop) : Prop :=
  match h'.bs[b]? with
  | some (.loop _ _ _ _ _ st pend) => match st with
    | .busy => False
    | _ => match jumpA pend with
      | some x => trimK { h' with bs := h'.bs.set b .dead } b fun h'' => Q x ⟨tmps, h''⟩
      | none => False
  | _ => False
theorem range_K {E : Env} {call : CallF} {jmp : JumpF} {fid : FuncId} {f : Operand} {ps : Array Tmp} {assign body : Code} {tmps : RG} {bs : List AB} {esc : List (Nat × Nat)} {Q : AX → ST → Prop}
    (hwp : (opnd tmps f).force fun g => lenK bs fun b => match g with
      | .fn g x y => listK (bs ++ [.loop fid tmps ps.toList assign body .ready none]) fun bs1 => callK call fid (.fn g x y) [.yc b] ⟨bs1, esc⟩ fun _ h' => rangeEndK tmps b h' Q
      | _ => False) : ∃ x s', evCode E call jmp false fid (.rangeFunc f ps assign body) ⟨tmps, ⟨bs, esc⟩⟩ = some (x, s') ∧ Q x s' := by
  rw [AV.force_eq, lenK_eq] at hwp
  split at hwp
  · rename_i g x y hg
    rw [listK_eq] at hwp
    obtain ⟨v, h', h1, h2⟩ := hwp
    unfold rangeEndK at h2
    split at h2
    · rename_i hb
      split at h2
      · exact h2.elim
      · rename_i st pend _ hst
        split at h2
        · rename_i x' hx
          rw [trimK_eq] at h2
          refine ⟨_, _, ?_, h2⟩
          have hst' : ¬ st = .busy := fun e => by subst e; exact hst rfl
          simp only [evCode, Bool.false_eq_true, if_false, evRange, hg, h1, hb, if_neg hst', hx]
        · exact h2.elim
    · exact h2.elim
  · exact hwp.elim
def putsPK : RG → List (Tmp × AV) → (RG → Prop) → Prop
  | ⟨n, t⟩, [], K => K ⟨n, t⟩
  | ⟨n, t⟩, (i, v) :: l, K => RG.putK ⟨n, t⟩ i v fun r => putsPK r l K
theorem putsPK_eq : ∀ (l : List (Tmp × AV)) (r : RG) (K : RG → Prop), putsPK r l K = K (l.foldl (fun t p => t.put p.1 p.2) r)
  | [], ⟨n, t⟩, _ => rfl
  | (i, v) :: l, ⟨n, t⟩, K => by simp only [putsPK, RG.putK_eq, putsPK_eq l, List.foldl_cons]
def endRK (b n : Nat) (st : LoopState) (p : Option Code) (h : H) (K : AV → H → Prop) : Prop :=
  match h.bs[b]? with
  | some (.loop fid tmps ps assign body _ _) => trimK { h with bs := h.bs.set b (.loop fid tmps ps assign body st p) } n fun h' => K (.bool p.isNone) h'
  | _ => False
theorem endRK_sound {b n : Nat} {st : LoopState} {p : Option Code} {h : H} {K : AV → H → Prop} (hk : endRK b n st p h K) : ∃ v h', endR b n st p h = some (.ret v, h') ∧ K v h' := by
  unfold endRK at hk
  split at hk
  · rename_i hb
    rw [trimK_eq] at hk
    exact ⟨_, _, by simp only [endR, hb], hk⟩
  · exact hk.elim
def bodyRK (b n : Nat) (K : AV → H → Prop) (x : AX) (s : ST) : Prop :=
  match x with
  | .normal => endRK b n .ready none s.h K
  | .ret => endRK b n .done (some .ret) s.h K
  | .exit id => endRK b n .done (some (.exit id)) s.h K
  | .goto l => endRK b n .done (some (.goto l)) s.h K
  | _ => False
def midRK (E : Env) (call : CallF) (jmp : JumpF) (fid : FuncId) (body : Code) (b n : Nat) (K : AV → H → Prop) (x : AX) (s : ST) : Prop :=
  match x with
  | .normal => match s.h.bs[b]? with
    | some (.loop fid1 tmps1 ps1 assign1 body1 .ready p1) => listK (s.h.bs.set b (.loop fid1 tmps1 ps1 assign1 body1 .busy p1)) fun bs' => codeK E call fid jmp true body ⟨s.tmps, ⟨bs', s.h.esc⟩⟩ (bodyRK b n K)
    | _ => False
  | _ => False
/-- A round of a loop over a function. -/
theorem yield_K {E : Env} {n : Nat} {from_ : FuncId} {b : Nat} {args : List AV} {bs : List AB} {esc : List (Nat × Nat)} {K : AV → H → Prop}
    (hwp : match bs[b]? with
      | some (.loop fid tmps ps assign body .ready _) => match Nat.beq args.length ps.length with
        | true => lenK bs fun n0 => putsPK tmps (ps.zip args) fun tmps1 => codeK E (evAll E n).1 fid (evAll E n).2 true assign ⟨tmps1, ⟨bs, esc⟩⟩ (midRK E (evAll E n).1 (evAll E n).2 fid body b n0 K)
        | false => False
      | _ => False) : ∃ v h', evCall E (n + 1) from_ (.yc b) args ⟨bs, esc⟩ = some (.ret v, h') ∧ K v h' := by
  show ∃ v h', yieldA E (evAll E n).1 (evAll E n).2 b args ⟨bs, esc⟩ = some (.ret v, h') ∧ K v h'
  split at hwp
  · rename_i fid tmps ps assign body pd hb
    split at hwp
    · rename_i hl
      rw [lenK_eq, putsPK_eq] at hwp
      obtain ⟨x, s1, h1, h2⟩ := codeK_sound _ _ _ _ _ _ hwp
      unfold midRK at h2
      split at h2
      · split at h2
        · rename_i fid1 tmps1 ps1 assign1 body1 p1 hb1
          rw [listK_eq] at h2
          obtain ⟨x2, s2, h3, h4⟩ := codeK_sound _ _ _ _ _ _ h2
          have hend : ∃ v h', (match some (x2, s2) with
              | some (.normal, s2) => endR b bs.length .ready none s2.h
              | some (.ret, s2) => endR b bs.length .done (some .ret) s2.h
              | some (.exit id, s2) => endR b bs.length .done (some (.exit id)) s2.h
              | some (.goto l, s2) => endR b bs.length .done (some (.goto l)) s2.h
              | _ => none) = some (.ret v, h') ∧ K v h' := by
            unfold bodyRK at h4
            cases x2 with
            | normal => exact endRK_sound h4
            | ret => exact endRK_sound h4
            | exit id => exact endRK_sound h4
            | goto l => exact endRK_sound h4
            | panic v => exact h4.elim
          obtain ⟨v, h', h5, h6⟩ := hend
          refine ⟨v, h', ?_, h6⟩
          rw [← h5]
          unfold yieldA
          simp only [hb, Nat.eq_of_beq_eq_true hl, if_true, h1, hb1, h3]
          cases x2 <;> rfl
        · exact h2.elim
      · exact h2.elim
    · exact hwp.elim
  · exact hwp.elim
end Go.Proofs.Ytnkeijebkpjdgaa.Ab
