/- States of trees: how they change, and rules for code. Conditions: none. -/
import Derived.Test.YthdnjihmjdbdkaaVlBase
namespace Go.Proofs.Ythdnjihmjdbdkaa.AE
open Go Go.RowKit
set_option linter.unusedVariables false
set_option linter.unusedSimpArgs false

section
variable {p nx nx' : Nat} {h0 : LB} {hf hf' h h' : AH} {σ σ' own own' : Nat → Option Nat} {E E' : Env} {O O' : Objs} {Ea Ea' : Nat → Value} {t : T} {v : Value}
theorem gE_put (E : Env) (d : Option Tmp) (t : T) (n : Nat) : gE (pE E d t) n = if d = some n then t else gE E n := by
  cases d with
  | none => simp [pE]
  | some d =>
    simp only [pE, gE, Option.some.injEq]
    by_cases hn : n = d
    · subst hn; simp
    · have : ¬ d = n := fun e => hn e.symm
      simp [hn, this]
theorem envPut (he : ∀ t, V σ hf nx (gE E t) (Ea t)) (hv : V σ hf nx t v) (d : Option Tmp) : ∀ n, V σ hf nx (gE (pE E d t) n) (putE Ea d v n) := fun n => by
  rw [gE_put]
  cases d with
  | none => simpa [putE] using he n
  | some d =>
    simp only [putE, Option.some.injEq]
    by_cases hn : d = n
    · subst hn; simpa using hv
    · have : ¬ n = d := fun e => hn e.symm
      simpa [hn, this] using he n
theorem SR.put (hs : SR p h0 σ hf own E O nx Ea h) (hv : V σ hf nx t v) (d : Option Tmp) : SR p h0 σ hf own (pE E d t) O nx (putE Ea d v) h :=
  ⟨envPut hs.env hv d, hs.obj, hs.fro, hs.mine, hs.base, hs.dom⟩
theorem Vundef0 : V σ hf nx (.tup []) undef := .fz (.tup [] #[] rfl (fun i hi => by simp at hi))
/-- More names, more numbers; the cells that stand go on. -/
theorem SR.ext (hs : SR p h0 σ hf own E O nx Ea h) (hn : nx ≤ nx') (hσ : ∀ k, k < nx → σ' k = σ k) (ho : ∀ a k, own a = some k → own' a = some k) (ho' : ∀ a k, own' a = some k → own a = some k ∨ (UL p h0 a ∧ h0.h a = none ∧ h' a ≠ none ∧ k < nx' ∧ hf a = none))
    (hh : ∀ a, h a ≠ none → h' a = h a) (hd : DomL p h0 h') : SR p h0 σ' hf own' E O nx' Ea h' := by
  refine ⟨fun t => (hs.env t).mono (fun _ _ e => e) hn hσ, fun k o hk => ?_, fun a o ha => ?_, fun a k ha => ?_, hs.base, hd⟩
  · obtain ⟨h1, N, h2, h3, h4⟩ := hs.obj k o hk
    refine ⟨by omega, N, h2, fun a ha => ho a k (h3 a ha), ?_⟩
    rw [hσ k h1]
    exact h4.mono (fun _ _ e => e) hn hσ (fun a ha => hh a (hs.mine a k (h3 a ha)).2.2.1)
  · obtain ⟨h1, h2⟩ := hs.fro a o ha
    refine ⟨(hh a (by rw [h1]; simp)).trans h1, ?_⟩
    cases hw : own' a with
    | none => rfl
    | some k =>
      rcases ho' a k hw with h3 | h3
      · rw [h2] at h3; cases h3
      · rw [h3.2.2.2.2] at ha; cases ha
  · rcases ho' a k ha with h3 | h3
    · obtain ⟨g1, g2, g3, g4⟩ := hs.mine a k h3
      exact ⟨g1, g2, by rw [hh a g3]; exact g3, by omega⟩
    · exact ⟨h3.1, h3.2.1, h3.2.2.1, h3.2.2.2.1⟩
/-- A new object. -/
theorem SR.new {q : Nat} {z : AObj} {obj : Obj} {oa : Option Nat} {N : List Nat} (hs : SR p h0 σ hf own E O nx Ea h) (hq : UL p h0 (tokOf q)) (hfr : h (tokOf q) = none) (hoa : (oa = some (tokOf q) ∧ N = [tokOf q]) ∨ (oa = none ∧ N = []))
    (ho : ObjR (fun k => if k = nx then oa else σ k) hf (nx + 1) (h.upd (tokOf q) (some z)) obj oa N) :
    SR p h0 (fun k => if k = nx then oa else σ k) hf (fun a => if a ∈ N then some nx else own a) E ((nx, some obj) :: O) (nx + 1) Ea (h.upd (tokOf q) (some z)) := by
  have h0n : h0.h (tokOf q) = none := by
    cases hh : h0.h (tokOf q) with
    | none => rfl
    | some o =>
      have h1 := hs.base (tokOf q) (by rw [hh]; simp)
      rw [hh] at h1
      rw [(hs.fro _ _ h1).1] at hfr
      cases hfr
  have hfn : hf (tokOf q) = none := by
    cases hh : hf (tokOf q) with
    | none => rfl
    | some o => rw [(hs.fro _ _ hh).1] at hfr; cases hfr
  have hN : ∀ a, a ∈ N → a = tokOf q := fun a ha => by
    rcases hoa with ⟨_, rfl⟩ | ⟨_, rfl⟩
    · simpa using ha
    · cases ha
  have hon : own (tokOf q) = none := by
    cases hh : own (tokOf q) with
    | none => rfl
    | some k => exact absurd hfr (hs.mine _ _ hh).2.2.1
  have hx := hs.ext (nx' := nx + 1) (σ' := fun k => if k = nx then oa else σ k) (own' := fun a => if a ∈ N then some nx else own a) (h' := h.upd (tokOf q) (some z)) (by omega) (fun k hk => if_neg (by omega))
    (fun a k ha => by
      have : a ∉ N := fun hn => by rw [hN a hn, hon] at ha; cases ha
      simp only [if_neg this]
      exact ha)
    (fun a k ha => by
      split at ha
      · rename_i hn
        obtain rfl := hN a hn
        obtain rfl := Option.some.inj ha
        exact .inr ⟨hq, h0n, by rw [AH.upd_same]; simp, by omega, hfn⟩
      · exact .inl ha)
    (fun a ha => AH.upd_ne _ (fun e => ha (by rw [e]; exact hfr)) _)
    (fun t ht => by
      unfold AH.upd at ht
      split at ht
      · rename_i e
        exact .inr (e ▸ hq)
      · exact hs.dom t ht)
  refine ⟨hx.env, fun k o hk => ?_, hx.fro, hx.mine, hx.base, hx.dom⟩
  simp only [gO] at hk
  split at hk
  · rename_i e
    subst e
    obtain rfl := Option.some.inj hk
    refine ⟨by omega, N, ?_, fun a ha => by simp only [if_pos ha], by simpa using ho⟩
    rcases hoa with ⟨_, rfl⟩ | ⟨_, rfl⟩ <;> simp
  · exact hx.obj k o hk
end

/-! ### operands -/
def VEv (E : Env) (x : Operand) (t : T) : Prop := ∀ (σ : Nat → Option Nat) (hf : AH) (nx : Nat) (Ea : Nat → Value), (∀ t, V σ hf nx (gE E t) (Ea t)) → ∃ v, evo Ea x = some v ∧ V σ hf nx t v
def VEvs (E : Env) (xs : List Operand) (ts : List T) : Prop := ∀ (σ : Nat → Option Nat) (hf : AH) (nx : Nat) (Ea : Nat → Value), (∀ t, V σ hf nx (gE E t) (Ea t)) → ∃ vs, evs Ea xs = some vs ∧ VL σ hf nx ts vs
theorem VEv.tmp {E : Env} {a : Tmp} {t : T} (h : gE E a = t) : VEv E (.tmp a) t := fun σ hf nx Ea he => ⟨_, rfl, h ▸ he a⟩
theorem VEv.const {E : Env} {c : Value} {t : T} (hc : closedV c = true) (h : ∀ hf, R hf t c) : VEv E (.const c) t := fun σ hf nx Ea he => ⟨c, by simp only [evo, hc, if_true], .fz (h hf)⟩
theorem VEv.int {E : Env} (k : IntKind) (n : Int) : VEv E (.const (.int k n)) (.int k n) := .const rfl fun _ => .int k n
theorem VEv.bool {E : Env} (b : Bool) : VEv E (.const (.bool b)) (.bool b) := .const rfl fun _ => .bool b
theorem VEv.str {E : Env} (s : ByteArray) : VEv E (.const (.string s)) (.str s) := .const rfl fun _ => .str s
theorem VEv.nils {E : Env} : VEv E (.const (.slice none 0 0)) .nils := .const rfl fun _ => .nils
theorem VEv.ptr0 {E : Env} : VEv E (.const (.pointer none)) .ptr0 := .const rfl fun _ => .ptr0
theorem VEv.fn0 {E : Env} : VEv E (.const .nilFunc) .fn0 := .const rfl fun _ => .fn0
theorem VEv.func {E : Env} (f : FuncId) : VEv E (.func f) (.fn f []) := fun σ hf nx Ea he => ⟨_, rfl, .fz (.fn f [] #[] rfl (fun i hi => by simp at hi))⟩
theorem VEvs.nil {E : Env} : VEvs E [] [] := fun σ hf nx Ea he => ⟨[], rfl, VL.nil _ _ _⟩
theorem VEvs.cons {E : Env} {x : Operand} {xs : List Operand} {t : T} {ts : List T} (h : VEv E x t) (hr : VEvs E xs ts) : VEvs E (x :: xs) (t :: ts) := fun σ hf nx Ea he => by
  obtain ⟨v, h1, h2⟩ := h σ hf nx Ea he
  obtain ⟨vs, h3, h4⟩ := hr σ hf nx Ea he
  exact ⟨v :: vs, by simp only [evs, h1, h3], .cons h2 h4⟩

/-! ### operations -/
section
variable (call : CallT) (P : Program)
/-- It asks nothing of the heap and makes nothing. -/
def OF (E : Env) (o : Oper) (t : T) : Prop := ∀ (p : Nat) (σ : Nat → Option Nat) (hf : AH) (nx : Nat) (Ea : Nat → Value) (h : AH), (∀ t, V σ hf nx (gE E t) (Ea t)) → ∃ v, aexec call P p Ea h o = some (v, h) ∧ V σ hf nx t v
/-- It looks at the heap. -/
def OL (E : Env) (O : Objs) (o : Oper) (t : T) : Prop := ∀ (q p : Nat) (h0 : LB) (σ : Nat → Option Nat) (hf : AH) (own : Nat → Option Nat) (nx : Nat) (Ea : Nat → Value) (h : AH), SR p h0 σ hf own E O nx Ea h → ∃ v, aexec call P q Ea h o = some (v, h) ∧ V σ hf nx t v
/-- It makes one thing. -/
def OM (E : Env) (nx : Nat) (o : Oper) (t : T) (obj : Obj) : Prop := ∀ (q : Nat) (σ : Nat → Option Nat) (hf : AH) (Ea : Nat → Value), (∀ t, V σ hf nx (gE E t) (Ea t)) →
  ∃ v z oa N, (∀ h, aexec call P q Ea h o = some (v, h.upd (tokOf q) (some z))) ∧ ((oa = some (tokOf q) ∧ N = [tokOf q]) ∨ (oa = none ∧ N = [])) ∧ V (fun k => if k = nx then oa else σ k) hf (nx + 1) t v ∧ ∀ h : AH, ObjR (fun k => if k = nx then oa else σ k) hf (nx + 1) (h.upd (tokOf q) (some z)) obj oa N
/-- It changes what is owned: of what stood, only what the numbers ks own. -/
def OC (E : Env) (O : Objs) (nx : Nat) (o : Oper) (t : T) (O' : Objs) (nx' : Nat) (ks : List Nat) : Prop := nx ≤ nx' ∧ ∀ (q p : Nat) (h0 : LB) (σ : Nat → Option Nat) (hf : AH) (own : Nat → Option Nat) (Ea : Nat → Value) (h : AH), SR p h0 σ hf own E O nx Ea h → (∀ t, Under q t → UL p h0 t) → Fr q h →
  ∃ v h' σ' own', aexec call P q Ea h o = some (v, h') ∧ Dom q h h' ∧ (∀ k, k < nx → σ' k = σ k) ∧ SR p h0 σ' hf own' E O' nx' Ea h' ∧ V σ' hf nx' t v ∧ (∀ a, h a ≠ none → (∀ k ∈ ks, own a ≠ some k) → h' a = h a) ∧ ∀ a k, own' a = some k → own a = some k ∨ h a = none ∨ ∃ k ∈ ks, own a = some k
end
theorem OF.toL {call : CallT} {P : Program} {E : Env} {O : Objs} {o : Oper} {t : T} (h : OF call P E o t) : OL call P E O o t := fun q p h0 σ hf own nx Ea H hs => h q σ hf nx Ea H hs.env

/-! ### rows of operations in order -/
section
variable (call : CallT) (P : Program)
def KK (p : Nat) (h0 : LB) (K : Env → Objs → Nat → Prop) (Ea : Nat → Value) (h : AH) : Prop := ∃ σ hf own E O nx, SR p h0 σ hf own E O nx Ea h ∧ K E O nx
def VRunO (ops : Array Oper) (l : List Oper) (E : Env) (O : Objs) (nx : Nat) (K : Env → Objs → Nat → Prop) : Prop := ∀ (p : Nat) (h0 : LB) (σ : Nat → Option Nat) (hf : AH) (own : Nat → Option Nat) (Ea : Nat → Value) (h : AH) (c i : Nat), SR p h0 σ hf own E O nx Ea h →
  RunO call P p ops c l i Ea h (KK p h0 K)
def VRun (co : Code) (E : Env) (O : Objs) (nx : Nat) (Q : AX → Env → Objs → Nat → Prop) : Prop := ∀ (p : Nat) (h0 : LB) (σ : Nat → Option Nat) (hf : AH) (own : Nat → Option Nat) (Ea : Nat → Value) (h : AH) (c : Nat), SR p h0 σ hf own E O nx Ea h →
  Run call P p co ⟨Ea, h, c⟩ (fun e s => KK p h0 (Q e) s.E s.h)
end
/-- Is it done? -/
def VWant (ops : Array Oper) (E : Env) (o : Oper) (b : Bool) : Prop := ∀ (σ : Nat → Option Nat) (hf : AH) (nx : Nat) (Ea : Nat → Value), (∀ t, V σ hf nx (gE E t) (Ea t)) → awant ops Ea o = b
theorem VWant.always {ops : Array Oper} {E : Env} {d : Option Tmp} {op : Op} {ty : TypeId} {ps : String} {af : Array Edge} : VWant ops E ⟨d, op, ty, ps, af, none⟩ true := fun _ _ _ _ _ => rfl
theorem V.boolInv {σ : Nat → Option Nat} {hf : AH} {nx : Nat} {b : Bool} {v : Value} (h : V σ hf nx (.bool b) v) : v = .bool b := by
  cases h with
  | fz hr => cases hr; rfl
theorem V.intInv {σ : Nat → Option Nat} {hf : AH} {nx : Nat} {k : IntKind} {n : Int} {v : Value} (h : V σ hf nx (.int k n) v) : v = .int k n := by
  cases h with
  | fz hr => cases hr; rfl
theorem V.strInv {σ : Nat → Option Nat} {hf : AH} {nx : Nat} {s : ByteArray} {v : Value} (h : V σ hf nx (.str s) v) : v = .string s := by
  cases h with
  | fz hr => cases hr; rfl
theorem V.nilsInv {σ : Nat → Option Nat} {hf : AH} {nx : Nat} {v : Value} (h : V σ hf nx .nils v) : v = .slice none 0 0 := by
  cases h with
  | fz hr => cases hr; rfl
theorem VWant.guard {ops : Array Oper} {E : Env} {d : Option Tmp} {op : Op} {ty : TypeId} {ps : String} {af : Array Edge} {j : Nat} {q : Tmp} {w b : Bool} (hd : (ops[j]?).bind (·.dst) = some q) (hq : gE E q = .bool b) : VWant ops E ⟨d, op, ty, ps, af, some (j, w)⟩ (b == w) := fun σ hf nx Ea he => by
  have h1 := he q
  rw [hq] at h1
  have h2 := h1.boolInv
  simp only [awant, hd, h2]
theorem under_child {p j t : Nat} (h : Under (child p j) t) : Under p t := Under.child_of h
section
variable {call : CallT} {P : Program} {ops : Array Oper} {o : Oper} {l : List Oper} {E : Env} {O O' : Objs} {nx nx' : Nat} {t : T} {obj : Obj} {K : Env → Objs → Nat → Prop} {Q : AX → Env → Objs → Nat → Prop} {x y : Code}
theorem VRunO.nil (hk : K E O nx) : VRunO call P ops [] E O nx K := fun p h0 σ hf own Ea h c i hs => RunO.nil ⟨σ, hf, own, E, O, nx, hs, hk⟩
theorem VRunO.off (hw : VWant ops E o false) (hk : VRunO call P ops l (pE E o.dst (.tup [])) O nx K) : VRunO call P ops (o :: l) E O nx K := fun p h0 σ hf own Ea h c i hs =>
  RunO.off rfl (hw σ hf nx Ea hs.env) (hk p h0 σ hf own _ h c _ (hs.put Vundef0 _))
theorem VRunO.look {d : Option Tmp} {op : Op} {ty : TypeId} {ps : String} {af : Array Edge} {g : Option (Nat × Bool)} (hw : VWant ops E ⟨d, op, ty, ps, af, g⟩ true) (hx : OL call P E O ⟨d, op, ty, ps, af, g⟩ t) (hk : VRunO call P ops l (pE E d t) O nx K) : VRunO call P ops (⟨d, op, ty, ps, af, g⟩ :: l) E O nx K := fun p h0 σ hf own Ea h c i hs => by
  obtain ⟨v, h1, h2⟩ := hx (child p (c + i)) p h0 σ hf own nx Ea h hs
  exact RunO.pure rfl rfl (hw σ hf nx Ea hs.env) h1 (hk p h0 σ hf own _ h c _ (hs.put h2 _))
theorem VRunO.free {d : Option Tmp} {op : Op} {ty : TypeId} {ps : String} {af : Array Edge} {g : Option (Nat × Bool)} (hw : VWant ops E ⟨d, op, ty, ps, af, g⟩ true) (hx : OF call P E ⟨d, op, ty, ps, af, g⟩ t) (hk : VRunO call P ops l (pE E d t) O nx K) : VRunO call P ops (⟨d, op, ty, ps, af, g⟩ :: l) E O nx K := VRunO.look hw hx.toL hk
theorem VRunO.make {d : Option Tmp} {op : Op} {ty : TypeId} {ps : String} {af : Array Edge} {g : Option (Nat × Bool)} (hw : VWant ops E ⟨d, op, ty, ps, af, g⟩ true) (hx : OM call P E nx ⟨d, op, ty, ps, af, g⟩ t obj) (hk : VRunO call P ops l (pE E d t) ((nx, some obj) :: O) (nx + 1) K) : VRunO call P ops (⟨d, op, ty, ps, af, g⟩ :: l) E O nx K := fun p h0 σ hf own Ea h c i hs => by
  obtain ⟨v, z, oa, N, h1, h2, h3, h4⟩ := hx (child p (c + i)) σ hf Ea hs.env
  unfold RunO
  intro hfc
  have hn : h (tokOf (child p (c + i))) = none := hfc (c + i) _ (Nat.le_refl _) (tokOf_under _)
  have hs' := hs.new (.inl (under_child (tokOf_under _))) hn h2 (h4 h)
  have := RunO.make (call := call) (P := P) (π := p) (c := c) (i := i) (ops := ops) (r := l) (K := KK p h0 K) rfl rfl (hw σ hf nx Ea hs.env) (h1 h) (hk p h0 _ hf _ _ _ c _ (hs'.put h3 d))
  unfold RunO at this
  exact this hfc
theorem VRunO.chain {d : Option Tmp} {op : Op} {ty : TypeId} {ps : String} {af : Array Edge} {g : Option (Nat × Bool)} (hw : VWant ops E ⟨d, op, ty, ps, af, g⟩ true) {ks : List Nat} (hx : OC call P E O nx ⟨d, op, ty, ps, af, g⟩ t O' nx' ks) (hk : VRunO call P ops l (pE E d t) O' nx' K) : VRunO call P ops (⟨d, op, ty, ps, af, g⟩ :: l) E O nx K := fun p h0 σ hf own Ea h c i hs => by
  unfold RunO
  intro hfc
  obtain ⟨v, h', σ', own', h1, h2, h3, h4, h5, _⟩ := hx.2 (child p (c + i)) p h0 σ hf own Ea h hs (fun t ht => .inl (under_child ht)) (FrC.fr hfc (Nat.le_refl _))
  have := RunO.step (call := call) (P := P) (π := p) (c := c) (i := i) (ops := ops) (r := l) (K := KK p h0 K) rfl rfl (hw σ hf nx Ea hs.env) h1 (fun _ => h2) (fun _ => hk p h0 _ hf _ _ _ c _ (h4.put h5 d))
  unfold RunO at this
  exact this hfc

/-! ### code -/
def vthn (K : Env → Objs → Nat → Prop) (Q : AX → Env → Objs → Nat → Prop) : AX → Env → Objs → Nat → Prop
  | .normal => K
  | .exit id => Q (.exit id)
  | .ret => Q .ret
def vinB (id : Nat) (Q : AX → Env → Objs → Nat → Prop) : AX → Env → Objs → Nat → Prop
  | .normal => Q .normal
  | .exit id' => fun E O nx => if id' = id then Q .normal E O nx else Q (.exit id') E O nx
  | .ret => Q .ret
theorem VRun.skip (hq : Q .normal E O nx) : VRun call P .skip E O nx Q := fun p h0 σ hf own Ea h c hs => Run.skip ⟨σ, hf, own, E, O, nx, hs, hq⟩
theorem VRun.label {id : Nat} (hq : Q .normal E O nx) : VRun call P (.label id) E O nx Q := fun p h0 σ hf own Ea h c hs => Run.label ⟨σ, hf, own, E, O, nx, hs, hq⟩
theorem VRun.ret (hq : Q .ret E O nx) : VRun call P .ret E O nx Q := fun p h0 σ hf own Ea h c hs => Run.ret ⟨σ, hf, own, E, O, nx, hs, hq⟩
theorem VRun.exit {id : Nat} (hq : Q (.exit id) E O nx) : VRun call P (.exit id) E O nx Q := fun p h0 σ hf own Ea h c hs => Run.exit ⟨σ, hf, own, E, O, nx, hs, hq⟩
theorem VRun.seq (hx : VRun call P x E O nx (vthn (fun E' O' nx' => VRun call P y E' O' nx' Q) Q)) : VRun call P (.seq x y) E O nx Q := fun p h0 σ hf own Ea h c hs => by
  refine Run.seq (Run.mono (hx p h0 σ hf own Ea h c hs) ?_)
  intro e s' hk
  cases e with
  | normal =>
    obtain ⟨σ', hf', own', E', O', nx', h1, h2⟩ := hk
    unfold thn
    exact h2 p h0 σ' hf' own' _ _ _ h1
  | exit id => unfold thn; exact hk
  | ret => unfold thn; exact hk
theorem VRun.scope (hx : VRun call P x E O nx Q) : VRun call P (.scope x) E O nx Q := fun p h0 σ hf own Ea h c hs => Run.scope (hx p h0 σ hf own Ea h c hs)
theorem VRun.block {id : Nat} (hx : VRun call P x E O nx (vinB id Q)) : VRun call P (.block id x) E O nx Q := fun p h0 σ hf own Ea h c hs => by
  refine Run.block (Run.mono (hx p h0 σ hf own Ea h c hs) ?_)
  rintro e s' ⟨σ', hf', own', E', O', nx', h1, h2⟩
  cases e with
  | normal => exact inB.n ⟨σ', hf', own', E', O', nx', h1, h2⟩
  | ret => exact inB.r ⟨σ', hf', own', E', O', nx', h1, h2⟩
  | exit id' =>
    simp only [vinB] at h2
    unfold inB
    split at h2
    · rename_i e
      simp only [if_pos e]
      exact ⟨σ', hf', own', E', O', nx', h1, h2⟩
    · rename_i e
      simp only [if_neg e]
      exact ⟨σ', hf', own', E', O', nx', h1, h2⟩
theorem VRun.cond {k : Operand} {b : Bool} (hb : VEv E k (.bool b)) (ht : b = true → VRun call P x E O nx Q) (hf : b = false → VRun call P y E O nx Q) : VRun call P (.cond k x y) E O nx Q := fun p h0 σ hf' own Ea h c hs => by
  obtain ⟨v, h1, h2⟩ := hb σ hf' nx Ea hs.env
  obtain rfl := h2.boolInv
  exact Run.cond h1 (fun e => ht e p h0 σ hf' own Ea h c hs) (fun e => hf e p h0 σ hf' own Ea h c hs)
theorem VRun.region {id : Nat} (hx : VRunO call P ops ops.toList E O nx (Q .normal)) : VRun call P (.region id ops false) E O nx Q := fun p h0 σ hf own Ea h c hs => Run.region rfl (hx p h0 σ hf own Ea h c 0 hs)
/-- A state that tells less, its numbers given anew. -/
def Wk (E : Env) (O : Objs) (nx : Nat) (E' : Env) (O' : Objs) (nx' : Nat) : Prop := ∀ (p : Nat) (h0 : LB) (σ : Nat → Option Nat) (hf : AH) (own : Nat → Option Nat) (Ea : Nat → Value) (h : AH), SR p h0 σ hf own E O nx Ea h → ∃ σ' hf' own', SR p h0 σ' hf' own' E' O' nx' Ea h
theorem Wk.refl (E : Env) (O : Objs) (nx : Nat) : Wk E O nx E O nx := fun p h0 σ hf own Ea h hs => ⟨σ, hf, own, hs⟩
theorem Wk.trans {E1 : Env} {O1 : Objs} {n1 : Nat} {E2 : Env} {O2 : Objs} {n2 : Nat} (h : Wk E O nx E1 O1 n1) (h2 : Wk E1 O1 n1 E2 O2 n2) : Wk E O nx E2 O2 n2 := fun p h0 σ hf own Ea H hs => by
  obtain ⟨σ', hf', own', hs'⟩ := h p h0 σ hf own Ea H hs
  exact h2 p h0 σ' hf' own' Ea H hs'
theorem VRun.wk {E' : Env} {O' : Objs} (hw : Wk E O nx E' O' nx') (hx : VRun call P x E' O' nx' Q) : VRun call P x E O nx Q := fun p h0 σ hf own Ea h c hs => by
  obtain ⟨σ', hf', own', hs'⟩ := hw p h0 σ hf own Ea h hs
  exact hx p h0 σ' hf' own' Ea h c hs'
theorem VRunO.wk {E' : Env} {O' : Objs} (hw : Wk E O nx E' O' nx') (hx : VRunO call P ops l E' O' nx' K) : VRunO call P ops l E O nx K := fun p h0 σ hf own Ea h c i hs => by
  obtain ⟨σ', hf', own', hs'⟩ := hw p h0 σ hf own Ea h hs
  exact hx p h0 σ' hf' own' Ea h c i hs'
/-- A loop: a state for each s that meets Φ, a measure that falls. -/
theorem VRun.loop {A : Type} (LE : A → Env) (LO : A → Objs) (ln : Nat) (Φ : A → Prop) (μ : A → Nat) (a0 : A) (h0' : Φ a0) (hw : Wk E O nx (LE a0) (LO a0) ln)
    (hb : ∀ a, Φ a → VRun call P x (LE a) (LO a) ln (vthn (fun E' O' nx' => ∃ b, Φ b ∧ μ b < μ a ∧ Wk E' O' nx' (LE b) (LO b) ln) Q)) : VRun call P (.loop x) E O nx Q := fun p h0 σ hf own Ea h c hs => by
  obtain ⟨σ', hf', own', hs'⟩ := hw p h0 σ hf own Ea h hs
  refine Run.loop (fun m Ea h c => ∃ a σ hf own, m = μ a ∧ Φ a ∧ SR p h0 σ hf own (LE a) (LO a) ln Ea h) (μ a0) ⟨a0, σ', hf', own', rfl, h0', hs'⟩ ?_
  rintro m Ea h c ⟨a, σ, hf, own, rfl, h1, h2⟩ _
  refine Run.mono (hb a h1 p h0 σ hf own Ea h c h2) ?_
  rintro e s' ⟨σ', hf', own', E', O', nx', h3, h4⟩
  cases e with
  | normal =>
    obtain ⟨b, h5, h6, h7⟩ := h4
    obtain ⟨σ2, hf2, own2, h8⟩ := h7 p h0 σ' hf' own' _ _ h3
    exact thn.n ⟨μ b, h6, b, σ2, hf2, own2, rfl, h5, h8⟩
  | exit id => exact thn.e ⟨σ', hf', own', E', O', nx', h3, h4⟩
  | ret => exact thn.r ⟨σ', hf', own', E', O', nx', h3, h4⟩
end
attribute [irreducible] VRun VRunO
end Go.Proofs.Ythdnjihmjdbdkaa.AE
