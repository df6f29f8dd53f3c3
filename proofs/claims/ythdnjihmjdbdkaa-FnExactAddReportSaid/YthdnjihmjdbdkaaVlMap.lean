/- Maps of whole numbers over trees. Conditions: none. -/
import Derived.Test.YthdnjihmjdbdkaaVlMut
namespace Go.Proofs.Ythdnjihmjdbdkaa.AE
open Go Go.RowKit
set_option linter.unusedVariables false
set_option linter.unusedSimpArgs false
def eM (l : List (Int × Int)) : List (T × T) := l.map fun p => (.int .i64 p.1, .int .i64 p.2)
def vM (l : List (Int × Int)) : List (Value × Value) := l.map fun p => (.int .i64 p.1, .int .i64 p.2)
def mput : List (Int × Int) → Int → Int → List (Int × Int)
  | [], n, v => [(n, v)]
  | p :: r, n, v => if n = p.1 then (n, v) :: r else p :: mput r n v
theorem RL.ints {hf : AH} : ∀ {l : List Int} {vs : List Value}, RL hf (l.map (fun n => T.int .i64 n)) vs → vs = l.map (fun n => Value.int .i64 n)
  | [], vs, h => List.eq_nil_of_length_eq_zero h.1.symm
  | n :: l, [], h => by cases h.1
  | n :: l, v :: vs, h => by
    obtain ⟨h1, h2⟩ := RL.tail h
    cases h1
    rw [RL.ints h2]
    rfl
theorem vM_of {ev : List (Value × Value)} {l : List (Int × Int)} (h1 : RL (fun _ => none) ((eM l).map (·.1)) (ev.map (·.1))) (h2 : RL (fun _ => none) ((eM l).map (·.2)) (ev.map (·.2))) : ev = vM l := by
  have e1 : (eM l).map (·.1) = (l.map (·.1)).map (fun n => T.int .i64 n) := by simp [eM, Function.comp_def]
  have e2 : (eM l).map (·.2) = (l.map (·.2)).map (fun n => T.int .i64 n) := by simp [eM, Function.comp_def]
  rw [e1] at h1
  rw [e2] at h2
  have g1 := RL.ints h1
  have g2 := RL.ints h2
  clear h1 h2 e1 e2
  induction l generalizing ev with
  | nil => simpa [vM] using g1
  | cons p l ih =>
    cases ev with
    | nil => simp at g1
    | cons q ev =>
      simp only [List.map_cons, List.cons.injEq] at g1 g2
      rw [ih g1.2 g2.2]
      show q :: vM l = (_, _) :: vM l
      rw [← g1.1, ← g2.1]
theorem RL_ints (hf : AH) : ∀ l : List Int, RL hf (l.map (fun n => T.int .i64 n)) (l.map (fun n => Value.int .i64 n))
  | [] => RL.nil hf
  | n :: l => RL.cons (.int _ _) (RL_ints hf l)
theorem eM_RL (l : List (Int × Int)) : RL (fun _ => none) ((eM l).map (·.1)) ((vM l).map (·.1)) ∧ RL (fun _ => none) ((eM l).map (·.2)) ((vM l).map (·.2)) := by
  constructor
  · have := RL_ints (fun _ => none) (l.map (·.1))
    simpa [eM, vM, Function.comp_def] using this
  · have := RL_ints (fun _ => none) (l.map (·.2))
    simpa [eM, vM, Function.comp_def] using this
theorem mpos_put (n v : Int) : ∀ l : List (Int × Int), (∃ j w, mpos .i64 n (vM l) = some (some (j, w)) ∧ (vM l).set j (.int .i64 n, .int .i64 v) = vM (mput l n v)) ∨ (mpos .i64 n (vM l) = some none ∧ vM l ++ [(.int .i64 n, .int .i64 v)] = vM (mput l n v))
  | [] => .inr ⟨rfl, rfl⟩
  | p :: r => by
    by_cases h : n = p.1
    · refine .inl ⟨0, .int .i64 p.2, ?_, ?_⟩
      · simp [vM, mpos, h]
      · simp [vM, mput, h]
    · have hb : (n == p.1) = false := by simp [h]
      rcases mpos_put n v r with ⟨j, w, h1, h2⟩ | ⟨h1, h2⟩
      · refine .inl ⟨j + 1, w, ?_, ?_⟩
        · show mpos .i64 n ((.int .i64 p.1, .int .i64 p.2) :: vM r) = _
          simp only [mpos, if_true, hb, Bool.false_eq_true, if_false, h1]
          rfl
        · simp only [mput, if_neg h]
          show (_ :: (vM r)).set (j + 1) _ = _ :: vM (mput r n v)
          rw [List.set_cons_succ, h2]
      · refine .inr ⟨?_, ?_⟩
        · show mpos .i64 n ((.int .i64 p.1, .int .i64 p.2) :: vM r) = _
          simp only [mpos, if_true, hb, Bool.false_eq_true, if_false, h1]
          rfl
        · simp only [mput, if_neg h]
          show _ :: (vM r ++ _) = _ :: vM (mput r n v)
          rw [h2]
theorem V.omInv {σ : Nat → Option Nat} {hf : AH} {nx k : Nat} {v : Value} (h : V σ hf nx (.om k) v) : ∃ a, v = .map (some a) ∧ σ k = some a ∧ k < nx := by
  cases h with
  | fz hr => cases hr
  | om k hk hs => exact ⟨_, rfl, hs, hk⟩
section
variable {call : CallT} {P : Program} {E : Env} {O : Objs} {d : Option Tmp} {ty tt kt et : TypeId} {ps : String} {af : Array Edge} {g : Option (Nat × Bool)} {x y z : Operand} {nx k : Nat} {l l' : List (Int × Int)}
theorem B.makeMap : OM call P E nx ⟨d, .makeMap tt none, ty, ps, af, g⟩ (.om nx) (.map (eM [])) := fun q σ hf Ea he =>
  ⟨.map (some (tokOf q)), .map [], some (tokOf q), [tokOf q], fun h => X.makeMap, .inl ⟨rfl, rfl⟩, .om nx (by omega) (by simp), fun h => .map (AH.upd_same _ _ _) (tok_odd _) (RL.nil _) (RL.nil _)⟩
theorem B.lenM {m : Nat} (hx : VEv E x (.om k)) (hk : gO O k = some (.map (eM l))) (hu : P.underlying tt = some (.map kt et)) (he : l.length = m) : OL call P E O ⟨d, .call ⟨.builtin .len, #[x], #[tt]⟩, ty, ps, af, g⟩ (.int .i64 (m : Nat)) := fun q p h0 σ hf own nx Ea h hs => by
  obtain ⟨v, h1, h2⟩ := hx σ hf nx Ea hs.env
  obtain ⟨a, rfl, h3, h4⟩ := h2.omInv
  obtain ⟨N, hN1, hN2, h5⟩ := hs.objAt hk
  rw [h3] at h5
  subst he
  cases h5 with
  | map hh hodd g1 g2 =>
    rename_i ev
    obtain rfl := vM_of g1 g2
    refine ⟨_, X.len h1 (w := .int .i64 (vM l).length) ?_, ?_⟩
    · simp only [alen, hu, hh]
    · rw [show (vM l).length = l.length by simp [vM]]
      exact .fz (.int _ _)
theorem B.mapSet {n v : Int} {k0 : IntKind} (hx : VEv E x (.om k)) (hy : VEv E y (.int .i64 n)) (hz : VEv E z (.int .i64 v)) (hk : gO O k = some (.map (eM l))) (hu : P.underlying tt = some (.map kt et)) (hkt : P.underlying kt = some (.int k0)) (hl : mput l n v = l') : OC call P E O nx ⟨d, .mapUpdate tt x y z, ty, ps, af, g⟩ .any ((k, some (.map (eM l'))) :: O) nx [k] := ⟨Nat.le_refl _, fun q p h0 σ hf own Ea h hs hu' hF => by
  subst hl
  obtain ⟨v1, a1, a2⟩ := hx σ hf nx Ea hs.env
  obtain ⟨v2, a3, a4⟩ := hy σ hf nx Ea hs.env
  obtain ⟨v3, a5, a6⟩ := hz σ hf nx Ea hs.env
  obtain ⟨a, rfl, h3, h4⟩ := a2.omInv
  obtain rfl := a4.intInv
  obtain rfl := a6.intInv
  obtain ⟨N, hN1, hN2, h5⟩ := hs.objAt hk
  rw [h3] at h5
  cases h5 with
  | map hh hodd g1 g2 =>
    rename_i ev
    obtain rfl := vM_of g1 g2
    have hown : own a = some k := hN2 a (by simp)
    have hset : amapset P tt h (.map (some a)) (.int .i64 n) (.int .i64 v) = some (h.upd a (some (.map (vM (mput l n v))))) := by
      simp only [amapset, hu, hkt, hh]
      rcases mpos_put n v l with ⟨j, w, e1, e2⟩ | ⟨e1, e2⟩
      · simp only [e1, e2]
      · simp only [e1, e2]
    refine ⟨undef, _, σ, own, X.mapUpdate a1 a3 a5 hset, Dom.old (by rw [hh]; simp) _, fun _ _ => rfl, hs.upd h3 h4 hown (N := [a]) (by simp) (by simpa using hown) (.map (AH.upd_same _ _ _) hodd (eM_RL _).1 (eM_RL _).2), .any _, fun b hb hnk => AH.upd_ne _ (fun e => ?_) _, fun b k' e => .inl e⟩
    exact hnk k (by simp) (e ▸ hown)⟩
end
/-! ### each once -/
def addNew (l : List Int) (x : Int) : List Int := if x ∈ l then l else l ++ [x]
theorem mput_keys (l : List (Int × Int)) (n v : Int) : (mput l n v).map (·.1) = addNew (l.map (·.1)) n := by
  induction l with
  | nil => rfl
  | cons p r ih =>
    simp only [mput]
    by_cases h : n = p.1
    · rw [if_pos h]
      simp [addNew, h]
    · rw [if_neg h]
      simp only [List.map_cons, ih, addNew, List.mem_cons, h, false_or]
      split <;> simp
theorem addNew_nodup {l : List Int} {x : Int} (h : l.Nodup) : (addNew l x).Nodup := by
  unfold addNew
  split
  · exact h
  · rename_i hx
    rw [List.nodup_append]
    exact ⟨h, by simp, fun a ha b hb e => hx (by obtain rfl := List.mem_singleton.1 hb; exact e ▸ ha)⟩
theorem addNew_mem {l : List Int} {x y : Int} : y ∈ addNew l x ↔ y ∈ l ∨ y = x := by
  unfold addNew
  split
  · rename_i hx
    exact ⟨.inl, fun h => h.elim id (fun e => e ▸ hx)⟩
  · simp
theorem same_len {a b : List Int} (ha : a.Nodup) (hb : b.Nodup) (h : ∀ x, x ∈ a ↔ x ∈ b) : a.length = b.length :=
  ((List.perm_ext_iff_of_nodup ha hb).2 h).length_eq
end Go.Proofs.Ythdnjihmjdbdkaa.AE
