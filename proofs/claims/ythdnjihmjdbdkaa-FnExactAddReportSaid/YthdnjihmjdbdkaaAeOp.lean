/- One operation of the abstract evaluator, and the law that the machine's operation does the same. Conditions: none. -/
import Derived.Test.YthdnjihmjdbdkaaAeOps5
namespace Go.Proofs.Ythdnjihmjdbdkaa.AE
open Go Go.RowKit
set_option linter.unusedVariables false
set_option linter.unusedSimpArgs false

def hasBody (P : Program) (g : FuncId) : Bool := ((P.funcs[g]?).bind (·.body)).isSome
def evs (E : Nat → Value) : List Operand → Option (List Value)
  | [] => some []
  | x :: r => match evo E x, evs E r with | some v, some l => some (v :: l) | _, _ => none
def evp (E : Nat → Value) : List (Nat × Operand) → Option (List (Nat × Value))
  | [] => some []
  | x :: r => match evo E x.2, evp E r with | some v, some l => some ((x.1, v) :: l) | _, _ => none
theorem evs_sound {ρ : Ren} {E : Nat → Value} {a : Act} (hE : EnvR ρ E a) : ∀ {xs : List Operand} {l : List Value}, evs E xs = some l → LR ρ l (xs.map a.eval)
  | [], l, h => by
    obtain rfl : [] = l := by simpa [evs] using h
    exact LR.nil ρ
  | x :: r, l, h => by
    unfold evs at h
    split at h
    · rename_i v l' h1 h2
      obtain rfl := Option.some.inj h
      exact LR.cons (evo_sound hE h1) (evs_sound hE h2)
    · cases h
theorem evp_sound {ρ : Ren} {E : Nat → Value} {a : Act} (hE : EnvR ρ E a) : ∀ {xs : List (Nat × Operand)} {l : List (Nat × Value)}, evp E xs = some l → PL ρ l (xs.map fun q => (q.1, a.eval q.2))
  | [], l, h => by
    obtain rfl : [] = l := by simpa [evp] using h
    exact ⟨rfl, fun i k v hi => by simp at hi⟩
  | x :: r, l, h => by
    unfold evp at h
    split at h
    · rename_i v l' h1 h2
      obtain rfl := Option.some.inj h
      have ih := evp_sound hE h2
      refine ⟨by simp [ih.1], fun i k u hi => ?_⟩
      cases i with
      | zero =>
        simp only [List.getElem?_cons_zero, Option.some.injEq, Prod.mk.injEq] at hi
        obtain ⟨rfl, rfl⟩ := hi
        exact ⟨_, by simp, evo_sound hE h1⟩
      | succ i => simpa using ih.2 i k u (by simpa using hi)
    · cases h
def abop (P : Program) (op : BinOp) (t : TypeId) (xo yo : Operand) (x y : Value) : Option Value :=
  match aeq P op t x y with
  | some v => some v
  | none => abin P op t xo yo x y
theorem abop_sound {P : Program} {ρ : Ren} {W : World} {op : BinOp} {t : TypeId} {xo yo : Operand} {x x' y y' v : Value} (h : abop P op t xo yo x y = some v) (hx : VR ρ x x') (hy : VR ρ y y') :
    ((do eqGuard op t xo yo x' y'; binOp op t x' y') : Sem Value).run P W = .ok v W ∧ VR ρ v v := by
  unfold abop at h
  split at h
  · rename_i u he
    obtain rfl := Option.some.inj h
    exact aeq_sound he hx hy
  · exact abin_sound h hx hy
def acall1 (P : Program) (p : Nat) (E : Nat → Value) (H : AH) (c : Call) : Option AR :=
  match c.callee with
  | .builtin .len => (match evs E c.args.toList, c.argTypes.toList with | some [x], [t] => (alen P t H x).map (.val · H) | _, _ => none)
  | .builtin .append => (match evs E c.args.toList, c.argTypes.toList with | some [s, x], [t, xt] => aappend P p t xt H s x | _, _ => none)
  | .builtin .max => (match evs E c.args.toList with | some l => (amm P true l).map (.val · H) | none => none)
  | .builtin .min => (match evs E c.args.toList with | some l => (amm P false l).map (.val · H) | none => none)
  | .value f => (match evo E f, evs E c.args.toList with
    | some (.func (.func g) fi caps), some l => if fi.isEmpty && hasBody P g then some (.enter g (l ++ caps.toList)) else none
    | _, _ => none)
  | _ => none
def aop (P : Program) (p : Nat) (E : Nat → Value) (H : AH) (o : Oper) : Option AR :=
  match o.op with
  | .move x => (evo E x).map (.val · H)
  | .assign x => (evo E x).map (.val · H)
  | .pick c a b => (match evo E c with | some (.bool true) => (evo E a).map (.val · H) | some (.bool false) => (evo E b).map (.val · H) | _ => none)
  | .alloc e => (match zeroOf P e with | some z => if closedV z then some (abox p H z) else none | none => none)
  | .box _ x => (evo E x).map (abox p H)
  | .build t ps => (match evp E ps.toList with | some l => (abuild P t l).map (.val · H) | none => none)
  | .buildSlice t len ps => (match evp E ps.toList with | some l => abuildSlice P p t len H l | none => none)
  | .load t a => (match evo E a with | some x => (aload P t H x).map (.val · H) | none => none)
  | .store t a x => (match evo E a, evo E x with | some u, some v => (astore P t H u v).map .skip | _, _ => none)
  | .nilCheck x => (match evo E x with | some (.pointer (some a)) => some (.val (.pointer (some a)) H) | _ => none)
  | .binOp op t x y _ => (match evo E x, evo E y with | some u, some v => (abop P op t x y u v).map (.val · H) | _, _ => none)
  | .unOp op _ x => (match evo E x with | some u => (aun P op u).map (.val · H) | none => none)
  | .convert s d x => (match evo E x with | some u => aconv P p s d H u | none => none)
  | .makeFunc (.func f) fi caps => if fi.isEmpty then (evs E caps.toList).map (fun l => .val (.func (.func f) #[] l.toArray) H) else none
  | .makeMap _ none => some (.val (.map (some (tokOf p))) (H.upd (tokOf p) (some (.map []))))
  | .makeSlice t l c => (match evo E l, evo E c with | some u, some v => amake P p t H u v | _, _ => none)
  | .slice t x none none none => (match evo E x with | some u => (aslice P t H u none none).map (.val · H) | _ => none)
  | .slice t x (some lo) none none => (match evo E x, evo E lo with | some u, some v => (aslice P t H u (some v) none).map (.val · H) | _, _ => none)
  | .slice t x none (some hi) none => (match evo E x, evo E hi with | some u, some v => (aslice P t H u none (some v)).map (.val · H) | _, _ => none)
  | .slice t x (some lo) (some hi) none => (match evo E x, evo E lo, evo E hi with | some u, some v, some w => (aslice P t H u (some v) (some w)).map (.val · H) | _, _, _ => none)
  | .fieldAddr s x f => (match evo E x with | some u => (afieldAddr P s u f).map (.val · H) | none => none)
  | .field t x f => (match evo E x with | some u => (afield P t u f).map (.val · H) | none => none)
  | .indexAddr t x ix => (match evo E x, evo E ix with | some u, some v => (aindexAddr P t u v).map (.val · H) | _, _ => none)
  | .index t x ix => (match evo E x, evo E ix with | some u, some v => (aindex P t u v).map (.val · H) | _, _ => none)
  | .lookup t x ix ok => (match evo E x, evo E ix with | some u, some v => (alookup P t H u v ok).map (.val · H) | _, _ => none)
  | .mapUpdate t m k x => (match evo E m, evo E k, evo E x with | some u, some v, some w => (amapset P t H u v w).map .skip | _, _, _ => none)
  | .extract x i => (match evo E x with | some u => (aextract u i).map (.val · H) | none => none)
  | .call c => acall1 P p E H c
  | _ => none
/-- What is asked of the program: no function bears a name that the machine treats by itself. -/
def Plain (P : Program) : Prop := P.funcs.all (fun fn => !(fn.name == "runtime.NumGoroutine")) = true
theorem plain_get {P : Program} (h : Plain P) {g : FuncId} {fn : Func} (hg : P.funcs[g]? = some fn) : (fn.name == "runtime.NumGoroutine") = false := by
  unfold Plain at h
  rw [← Array.all_toList] at h
  have hm : fn ∈ P.funcs.toList := by
    rw [Array.mem_toList_iff]
    exact Array.mem_of_getElem? hg
  simpa using List.all_eq_true.1 h fn hm
theorem callFunc_run {P : Program} {W : World} (hP : Plain P) {g : FuncId} (h : hasBody P g = true) (args : Array Value) : (callFunc g args).run P W = .ok (.enter g args) W := by
  unfold hasBody at h
  obtain ⟨c, hc⟩ := Option.isSome_iff_exists.1 h
  obtain ⟨fn, hfn, hb⟩ := Option.bind_eq_some_iff.1 hc
  have hn := plain_get hP hfn
  have hn2 : ¬ fn.name = "runtime.NumGoroutine" := by simpa using hn
  simp [callFunc, hfn, hn2, hb]
section
variable {P : Program} {b0 p : Nat} {ρ : Ren} {H : AH} {W : World} {E : Nat → Value} {a : Act}
theorem Good.val {r : Result Next} {s : Sem Value} {v v' : Value} (hR : Rel b0 ρ H W) (hr : r = (do Pure.pure (Next.value (← s)) : Sem Next).run P W) (h : s.run P W = .ok v' W) (hv : VR ρ v v') : Good b0 p ρ H W r (.val v H) :=
  Good.pure hR (by rw [hr, Sem.run_bind, h, Result.andThen_ok, Sem.run_pure]) hv
theorem Good.mem {r : Result Next} {s : Sem Value} {v u : Value} {H' : AH} {W' : World} {ρ' : Ren} (hr : r = (do Pure.pure (Next.value (← s)) : Sem Next).run P W) (h : s.run P W = .ok u W') (hs : Stp b0 p ρ H W ρ' H' W') (hv : VR ρ' v u) : Good b0 p ρ H W r (.val v H') :=
  ⟨u, W', ρ', by rw [hr, Sem.run_bind, h, Result.andThen_ok, Sem.run_pure], hs, hv⟩
theorem acall1_sound (hP : Plain P) {c : Call} {dst : Option Tmp} {type : TypeId} {pos : String} {after : Array Edge} {guard : Option (Nat × Bool)} {r : AR} (h : acall1 P p E H c = some r) (hE : EnvR ρ E a) (hR : Rel b0 ρ H W) (hf : ∀ t, Under p t → ρ t = none) (hp : p % 2 = 1) :
    Good b0 p ρ H W ((execOp a.eval { dst, op := .call c, type, pos, after, guard }).run P W) r := by
  obtain ⟨callee, args, argTypes⟩ := c
  obtain ⟨args⟩ := args
  obtain ⟨argTypes⟩ := argTypes
  unfold acall1 at h
  simp only at h
  split at h
  · -- len
    split at h
    · rename_i x t h1
      obtain ⟨v, hv, rfl⟩ := Option.map_eq_some_iff.1 h
      have hl := evs_sound hE h1
      match args, hl with
      | [y], hl =>
        obtain ⟨h3, h4⟩ := alen_sound (ty := type) hv hl.tail.1 hR
        refine Good.pure hR ?_ h4
        simp [execOp, resolve, invoke, builtin, h3]
      | [], hl => simp [LR] at hl
      | _ :: _ :: _, hl => simp [LR] at hl
    · cases h
  · split at h
    · rename_i s x t xt h1
      have hl := evs_sound hE h1
      match args, hl with
      | [y, z], hl =>
        obtain ⟨v, H', u, W', ρ', rfl, h3, h4, h5⟩ := aappend_sound (ty := type) h hl.tail.1 hl.tail.2.tail.1 hR hf hp
        refine ⟨u, W', ρ', ?_, h4, h5⟩
        simp [execOp, resolve, invoke, builtin, h3]
      | [], hl => simp [LR] at hl
      | [_], hl => simp [LR] at hl
      | _ :: _ :: _ :: _, hl => simp [LR] at hl
    · cases h
  · split at h
    · rename_i l h1
      obtain ⟨v, hv, rfl⟩ := Option.map_eq_some_iff.1 h
      have hl := evs_sound hE h1
      obtain ⟨h3, h4⟩ := amm_sound (args' := (args.map a.eval).toArray) (W := W) (ats := argTypes.toArray) (ty := type) hv (by simpa using hl)
      refine Good.pure hR ?_ h4
      simp only [if_true] at h3
      simp [execOp, resolve, invoke, builtin, h3]
    · cases h
  · split at h
    · rename_i l h1
      obtain ⟨v, hv, rfl⟩ := Option.map_eq_some_iff.1 h
      have hl := evs_sound hE h1
      obtain ⟨h3, h4⟩ := amm_sound (args' := (args.map a.eval).toArray) (W := W) (ats := argTypes.toArray) (ty := type) hv (by simpa using hl)
      refine Good.pure hR ?_ h4
      simp only [Bool.false_eq_true, if_false] at h3
      simp [execOp, resolve, invoke, builtin, h3]
    · cases h
  · rename_i f
    split at h
    · rename_i g fi caps l h1 h2
      split at h
      · rename_i hc
        rw [Bool.and_eq_true] at hc
        obtain rfl := Option.some.inj h
        have hv := evo_sound hE h1
        have hl := evs_sound hE h2
        generalize hfv : a.eval f = fv at hv
        cases hv with
        | fn _ _ cs' hs hcs =>
          refine ⟨(args.map a.eval).toArray ++ cs', ?_, ?_⟩
          · have := callFunc_run (W := W) hP hc.2 ((args.map a.eval).toArray ++ cs')
            simp [execOp, resolve, invoke, Deferred.ofValue, hfv, this]
          · rw [Array.toList_append, List.toList_toArray]
            exact hl.append ⟨by simpa using hs, fun i hi => by simpa [List.getD_eq_getElem?_getD, Array.getD_eq_getD_getElem?] using hcs i (by simpa using hi)⟩
      · cases h
    · cases h
  · cases h
theorem aop_sound (hP : Plain P) {o : Oper} {r : AR} (h : aop P p E H o = some r) (hE : EnvR ρ E a) (hR : Rel b0 ρ H W) (hf : ∀ t, Under p t → ρ t = none) (hp : p % 2 = 1) : Good b0 p ρ H W ((execOp a.eval o).run P W) r := by
  obtain ⟨dst, op, type, pos, after, guard⟩ := o
  unfold aop at h
  simp only at h
  split at h
  · obtain ⟨v, hv, rfl⟩ := Option.map_eq_some_iff.1 h
    exact Good.pure hR rfl (evo_sound hE hv)
  · obtain ⟨v, hv, rfl⟩ := Option.map_eq_some_iff.1 h
    exact Good.pure hR rfl (evo_sound hE hv)
  · rename_i c x y
    split at h
    · rename_i hc
      obtain ⟨v, hv, rfl⟩ := Option.map_eq_some_iff.1 h
      have h1 := evo_sound hE hc
      generalize hcv : a.eval c = cv at h1
      cases h1
      exact Good.pure hR (by simp [execOp, hcv, asBool]) (evo_sound hE hv)
    · rename_i hc
      obtain ⟨v, hv, rfl⟩ := Option.map_eq_some_iff.1 h
      have h1 := evo_sound hE hc
      generalize hcv : a.eval c = cv at h1
      cases h1
      exact Good.pure hR (by simp [execOp, hcv, asBool]) (evo_sound hE hv)
    · cases h
  · split at h
    · rename_i z hz
      split at h
      · rename_i hc
        obtain rfl := Option.some.inj h
        obtain ⟨u, W', ρ', h1, h2, h3⟩ := aalloc_sound hz hc hR hf hp
        exact Good.mem rfl h1 h2 h3
      · cases h
    · cases h
  · obtain ⟨v, hv, rfl⟩ := Option.map_eq_some_iff.1 h
    obtain ⟨u, W', ρ', h1, h2, h3⟩ := abox_sound (evo_sound hE hv) hR hf hp
    exact Good.mem rfl h1 h2 h3
  · rename_i t ps
    split at h
    · rename_i l hl
      obtain ⟨v, hv, rfl⟩ := Option.map_eq_some_iff.1 h
      obtain ⟨v', h1, h2⟩ := abuild_sound (W := W) (ps' := ps.map fun (i, x) => (i, a.eval x)) hv (by simpa using evp_sound hE hl)
      exact Good.val hR rfl h1 h2
    · cases h
  · rename_i t len ps
    split at h
    · rename_i l hl
      obtain ⟨v, H', u, W', ρ', rfl, h1, h2, h3⟩ := abuildSlice_sound (ps' := ps.map fun (i, x) => (i, a.eval x)) h (by simpa using evp_sound hE hl) hR hf hp
      exact Good.mem rfl h1 h2 h3
    · cases h
  · split at h
    · rename_i x hx
      obtain ⟨v, hv, rfl⟩ := Option.map_eq_some_iff.1 h
      obtain ⟨v', h1, h2⟩ := aload_sound hv (evo_sound hE hx) hR
      exact Good.val hR rfl h1 h2
    · cases h
  · split at h
    · rename_i u v hu hv
      obtain ⟨H', hH, rfl⟩ := Option.map_eq_some_iff.1 h
      obtain ⟨W', h1, h2⟩ := astore_sound (p := p) hH (evo_sound hE hu) (evo_sound hE hv) hR
      exact ⟨W', ρ, by simp [execOp, h1], h2⟩
    · cases h
  · rename_i x
    split at h
    · rename_i ad hx
      obtain rfl := Option.some.inj h
      have h1 := evo_sound hE hx
      generalize hcv : a.eval x = cv at h1
      refine Good.pure (v' := cv) hR ?_ h1
      cases h1
      simp [execOp, hcv]
    · cases h
  · rename_i bop t x y ty
    split at h
    · rename_i u v hu hv
      obtain ⟨w, hw, rfl⟩ := Option.map_eq_some_iff.1 h
      obtain ⟨h1, h2⟩ := abop_sound (W := W) hw (evo_sound hE hu) (evo_sound hE hv)
      exact Good.val hR rfl h1 h2
    · cases h
  · split at h
    · rename_i u hu
      obtain ⟨w, hw, rfl⟩ := Option.map_eq_some_iff.1 h
      obtain ⟨h1, h2⟩ := aun_sound (W := W) hw (evo_sound hE hu)
      exact Good.val hR rfl h1 h2
    · cases h
  · split at h
    · rename_i u hu
      obtain ⟨v, H', u2, W', ρ', rfl, h1, h2, h3⟩ := aconv_sound h (evo_sound hE hu) hR hf hp
      exact Good.mem rfl h1 h2 h3
    · cases h
  · rename_i f fi caps
    split at h
    · rename_i hfi
      obtain ⟨l, hl, rfl⟩ := Option.map_eq_some_iff.1 h
      have h1 := evs_sound hE hl
      have hfi' : fi = #[] := by simpa using hfi
      subst hfi'
      refine Good.val (P := P) (s := Instr.makeFunc (.func f) #[] (caps.map a.eval)) hR (by simp [execOp]) (v' := .func (.func f) #[] (caps.map a.eval)) (by simp [Instr.makeFunc]) ?_
      refine .fn f _ _ (by simpa using h1.1) (fun i hi => ?_)
      have := h1.2 i (by simpa using hi)
      simpa [List.getD_eq_getElem?_getD, Array.getD_eq_getD_getElem?] using this
    · cases h
  · obtain rfl := Option.some.inj h
    obtain ⟨ρ', h1, h2⟩ := Stp.newMap hR hf hp
    exact ⟨.map (some W.heap.size), _, ρ', by simp [execOp, Instr.makeMap], h2, .map h1⟩
  · split at h
    · rename_i u v hu hv
      obtain ⟨w, H', u2, W', ρ', rfl, h1, h2, h3⟩ := amake_sound h (evo_sound hE hu) (evo_sound hE hv) hR hf hp
      exact Good.mem rfl h1 h2 h3
    · cases h
  · split at h
    · rename_i u hu
      obtain ⟨w, hw, rfl⟩ := Option.map_eq_some_iff.1 h
      obtain ⟨v', h1, h2⟩ := aslice_sound (lo' := none) (hi' := none) hw (evo_sound hE hu) trivial trivial hR
      exact Good.val hR rfl h1 h2
    · cases h
  · rename_i t x lo
    split at h
    · rename_i u v hu hv
      obtain ⟨w, hw, rfl⟩ := Option.map_eq_some_iff.1 h
      obtain ⟨v', h1, h2⟩ := aslice_sound (lo' := some (a.eval lo)) (hi' := none) hw (evo_sound hE hu) (evo_sound hE hv) trivial hR
      exact Good.val hR rfl h1 h2
    · cases h
  · rename_i t x hi
    split at h
    · rename_i u v hu hv
      obtain ⟨w, hw, rfl⟩ := Option.map_eq_some_iff.1 h
      obtain ⟨v', h1, h2⟩ := aslice_sound (lo' := none) (hi' := some (a.eval hi)) hw (evo_sound hE hu) trivial (evo_sound hE hv) hR
      exact Good.val hR rfl h1 h2
    · cases h
  · rename_i t x lo hi
    split at h
    · rename_i u v w hu hv hw'
      obtain ⟨w, hw, rfl⟩ := Option.map_eq_some_iff.1 h
      obtain ⟨v', h1, h2⟩ := aslice_sound (lo' := some (a.eval lo)) (hi' := some (a.eval hi)) hw (evo_sound hE hu) (evo_sound hE hv) (evo_sound hE hw') hR
      exact Good.val hR rfl h1 h2
    · cases h
  · split at h
    · rename_i u hu
      obtain ⟨w, hw, rfl⟩ := Option.map_eq_some_iff.1 h
      obtain ⟨v', h1, h2⟩ := afieldAddr_sound (W := W) hw (evo_sound hE hu)
      exact Good.val hR rfl h1 h2
    · cases h
  · split at h
    · rename_i u hu
      obtain ⟨w, hw, rfl⟩ := Option.map_eq_some_iff.1 h
      obtain ⟨v', h1, h2⟩ := afield_sound (W := W) hw (evo_sound hE hu)
      exact Good.val hR rfl h1 h2
    · cases h
  · split at h
    · rename_i u v hu hv
      obtain ⟨w, hw, rfl⟩ := Option.map_eq_some_iff.1 h
      obtain ⟨v', h1, h2⟩ := aindexAddr_sound (W := W) hw (evo_sound hE hu) (evo_sound hE hv)
      exact Good.val hR rfl h1 h2
    · cases h
  · split at h
    · rename_i u v hu hv
      obtain ⟨w, hw, rfl⟩ := Option.map_eq_some_iff.1 h
      obtain ⟨v', h1, h2⟩ := aindex_sound (W := W) hw (evo_sound hE hu) (evo_sound hE hv)
      exact Good.val hR rfl h1 h2
    · cases h
  · split at h
    · rename_i u v hu hv
      obtain ⟨w, hw, rfl⟩ := Option.map_eq_some_iff.1 h
      obtain ⟨v', h1, h2⟩ := alookup_sound hw (evo_sound hE hu) (evo_sound hE hv) hR
      exact Good.val hR rfl h1 h2
    · cases h
  · split at h
    · rename_i u v w hu hv hw'
      obtain ⟨H', hH, rfl⟩ := Option.map_eq_some_iff.1 h
      obtain ⟨W', h1, h2⟩ := amapset_sound (p := p) hH (evo_sound hE hu) (evo_sound hE hv) (evo_sound hE hw') hR
      exact ⟨W', ρ, by simp [execOp, h1], h2⟩
    · cases h
  · split at h
    · rename_i u hu
      obtain ⟨w, hw, rfl⟩ := Option.map_eq_some_iff.1 h
      obtain ⟨v', h1, h2⟩ := aextract_sound (W := W) hw (evo_sound hE hu)
      exact Good.val hR rfl h1 h2
    · cases h
  · exact acall1_sound hP h hE hR hf hp
  · cases h
end
end Go.Proofs.Ythdnjihmjdbdkaa.AE
