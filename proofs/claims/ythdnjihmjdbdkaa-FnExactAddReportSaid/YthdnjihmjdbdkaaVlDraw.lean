/- States of trees at regions whose order is not told. Conditions: none. -/
import Derived.Test.YthdnjihmjdbdkaaVlState
namespace Go.Proofs.Ythdnjihmjdbdkaa.AE
open Go Go.RowKit
set_option linter.unusedVariables false
set_option linter.unusedSimpArgs false

def layO (cond : Nat → Bool) : List (Nat × Nat × Obj) → Objs → Objs
  | [], O => O
  | x :: r, O => if cond x.1 then (x.2.1, some x.2.2) :: layO cond r O else layO cond r O
inductive AlR (p c : Nat) (σ : Nat → Option Nat) (hf : AH) (nx : Nat) : List (Nat × Nat × Obj) → List (Nat × AObj) → Prop
  | nil : AlR p c σ hf nx [] []
  | cons {i k : Nat} {obj : Obj} {z : AObj} {N : List Nat} {al : List (Nat × Nat × Obj)} {ala : List (Nat × AObj)} (hk : k < nx) (ho : (σ k = some (tokOf (child p (c + i))) ∧ N = [tokOf (child p (c + i))]) ∨ (σ k = none ∧ N = []))
      (hr : ∀ h : AH, ObjR σ hf nx (h.upd (tokOf (child p (c + i))) (some z)) obj (σ k) N) (r : AlR p c σ hf nx al ala) : AlR p c σ hf nx ((i, k, obj) :: al) ((i, z) :: ala)
theorem AlR.mono {p c nx nx' : Nat} {σ σ' : Nat → Option Nat} {hf : AH} (hn : nx ≤ nx') (hσ : ∀ k, k < nx → σ' k = σ k) {al : List (Nat × Nat × Obj)} {ala : List (Nat × AObj)} (h : AlR p c σ hf nx al ala) : AlR p c σ' hf nx' al ala := by
  induction h with
  | nil => exact .nil
  | cons hk ho hr _ ih =>
    refine .cons (by omega) (by rw [hσ _ hk]; exact ho) (fun h => ?_) ih
    rw [hσ _ hk]
    exact (hr h).mono (fun _ _ e => e) hn hσ (fun _ _ => rfl)
theorem AlR.snoc {p c nx i k : Nat} {σ : Nat → Option Nat} {hf : AH} {obj : Obj} {z : AObj} {N : List Nat} (hk : k < nx) (ho : (σ k = some (tokOf (child p (c + i))) ∧ N = [tokOf (child p (c + i))]) ∨ (σ k = none ∧ N = []))
    (hr : ∀ h : AH, ObjR σ hf nx (h.upd (tokOf (child p (c + i))) (some z)) obj (σ k) N) {al : List (Nat × Nat × Obj)} {ala : List (Nat × AObj)} (h : AlR p c σ hf nx al ala) : AlR p c σ hf nx (al ++ [(i, k, obj)]) (ala ++ [(i, z)]) := by
  induction h with
  | nil => exact .cons hk ho hr .nil
  | cons hk2 ho2 hr2 _ ih => exact .cons hk2 ho2 hr2 ih
theorem AlR.idx {p c nx : Nat} {σ : Nat → Option Nat} {hf : AH} {al : List (Nat × Nat × Obj)} {ala : List (Nat × AObj)} (h : AlR p c σ hf nx al ala) : ala.map (·.1) = al.map (·.1) := by
  induction h with
  | nil => rfl
  | cons _ _ _ _ ih => simp only [List.map_cons, ih]
section
variable {p nx nx' c : Nat} {h0 : LB} {hf h h' C base : AH} {σ σ' own own' ownb : Nat → Option Nat} {E E' : Env} {O O' Ob : Objs} {Ea : Nat → Value} {t : T} {v : Value}
theorem SR.add {tk k : Nat} {z : AObj} {obj : Obj} {N : List Nat} (hs : SR p h0 σ hf own E O nx Ea h) (hq : UL p h0 tk) (hfr : h tk = none) (hk : k < nx) (hoa : (σ k = some tk ∧ N = [tk]) ∨ (σ k = none ∧ N = []))
    (ho : ObjR σ hf nx (h.upd tk (some z)) obj (σ k) N) : SR p h0 σ hf (fun a => if a ∈ N then some k else own a) E ((k, some obj) :: O) nx Ea (h.upd tk (some z)) := by
  have h0n : h0.h tk = none := by
    cases hh : h0.h tk with
    | none => rfl
    | some o =>
      have h1 := hs.base tk (by rw [hh]; simp)
      rw [hh] at h1
      rw [(hs.fro _ _ h1).1] at hfr
      cases hfr
  have hfn : hf tk = none := by
    cases hh : hf tk with
    | none => rfl
    | some o => rw [(hs.fro _ _ hh).1] at hfr; cases hfr
  have hN : ∀ a, a ∈ N → a = tk := fun a ha => by
    rcases hoa with ⟨_, rfl⟩ | ⟨_, rfl⟩
    · simpa using ha
    · cases ha
  have hon : own tk = none := by
    cases hh : own tk with
    | none => rfl
    | some k => exact absurd hfr (hs.mine _ _ hh).2.2.1
  have hx := hs.ext (nx' := nx) (σ' := σ) (own' := fun a => if a ∈ N then some k else own a) (h' := h.upd tk (some z)) (Nat.le_refl _) (fun k hk => rfl)
    (fun a k ha => by
      have : a ∉ N := fun hn => by rw [hN a hn, hon] at ha; cases ha
      simp only [if_neg this]
      exact ha)
    (fun a k' ha => by
      split at ha
      · rename_i hn
        obtain rfl := hN a hn
        obtain rfl := Option.some.inj ha
        exact .inr ⟨hq, h0n, by rw [AH.upd_same]; simp, hk, hfn⟩
      · exact .inl ha)
    (fun a ha => AH.upd_ne _ (fun e => ha (by rw [e]; exact hfr)) _)
    (fun t ht => by
      unfold AH.upd at ht
      split at ht
      · rename_i e
        exact .inr (e ▸ hq)
      · exact hs.dom t ht)
  refine ⟨hx.env, fun k' o hk' => ?_, hx.fro, hx.mine, hx.base, hx.dom⟩
  simp only [gO] at hk'
  split at hk'
  · rename_i e
    subst e
    obtain rfl := Option.some.inj hk'
    refine ⟨hk, N, ?_, fun a ha => by simp only [if_pos ha], ho⟩
    rcases hoa with ⟨_, rfl⟩ | ⟨_, rfl⟩ <;> simp
  · exact hx.obj k' o hk'
theorem tokc_ne {p c i j : Nat} (h : i ≠ j) : tokOf (child p (c + i)) ≠ tokOf (child p (c + j)) := fun e => by
  have := (child_inj (child_inj e).1).2
  omega
/-- What was made and not yet laid is laid. -/
theorem SR.lay (cond : Nat → Bool) {al : List (Nat × Nat × Obj)} {ala : List (Nat × AObj)} (hs : SR p h0 σ hf own E O nx Ea C) (ha : AlR p c σ hf nx al ala) (hfr : ∀ x ∈ al, cond x.1 = true → C (tokOf (child p (c + x.1))) = none) (hnd : (al.map (·.1)).Nodup) :
    (∃ own', SR p h0 σ hf own' E (layO cond al O) nx Ea (AE.lay p c cond ala C) ∧ ∀ a k, own' a = some k → own a = some k ∨ C a = none) ∧ (∀ t, C t ≠ none → AE.lay p c cond ala C t = C t) ∧ ∀ j, (∀ x ∈ al, cond x.1 = true → x.1 ≠ j) → AE.lay p c cond ala C (tokOf (child p (c + j))) = C (tokOf (child p (c + j))) := by
  induction ha with
  | nil => exact ⟨⟨own, hs, fun _ _ e => .inl e⟩, fun _ _ => rfl, fun _ _ => rfl⟩
  | @cons i k obj z N al ala hk ho hr _ ih =>
    simp only [List.map_cons, List.nodup_cons] at hnd
    obtain ⟨⟨own1, ih1, ih4⟩, ih2, ih3⟩ := ih (fun x hx => hfr x (by simp [hx])) hnd.2
    simp only [AE.lay, layO]
    by_cases hc : cond i = true
    · rw [if_pos hc, if_pos hc]
      have hne : ∀ x ∈ al, cond x.1 = true → x.1 ≠ i := fun x hx _ e => hnd.1 (by rw [← e]; exact List.mem_map_of_mem hx)
      have h1 : AE.lay p c cond ala C (tokOf (child p (c + i))) = none := (ih3 i hne).trans (hfr (i, k, obj) (by simp) hc)
      refine ⟨⟨_, ih1.add (.inl (Under.child_of (tokOf_under _))) h1 hk ho (hr _), fun a k' ha => ?_⟩, fun t ht => ?_, fun j hj => ?_⟩
      · split at ha
        · rename_i hm
          refine .inr ?_
          rcases ho with ⟨_, rfl⟩ | ⟨_, rfl⟩
          · obtain rfl := List.mem_singleton.1 hm
            exact hfr (i, k, obj) (by simp) hc
          · cases hm
        · exact ih4 a k' ha
      · rw [AH.upd_ne _ (fun e => by rw [e, hfr (i, k, obj) (by simp) hc] at ht; exact ht rfl)]
        exact ih2 t ht
      · have hij : i ≠ j := hj (i, k, obj) (by simp) hc
        rw [AH.upd_ne _ (Ne.symm (tokc_ne hij))]
        exact ih3 j (fun x hx => hj x (by simp [hx]))
    · rw [if_neg hc, if_neg hc]
      exact ⟨⟨own1, ih1, ih4⟩, ih2, fun j hj => ih3 j (fun x hx => hj x (by simp [hx]))⟩
end
structure SRD (p c : Nat) (h0 : LB) (σ : Nat → Option Nat) (hf : AH) (own ownb : Nat → Option Nat) (E : Env) (O Ob : Objs) (nx nb : Nat) (q : Bool) (al : List (Nat × Nat × Obj)) (fl : List Nat) (Ea : Nat → Value) (base C : AH) (ala : List (Nat × AObj)) : Prop where
  cur : SR p h0 σ hf own E O nx Ea C
  bas : SR p h0 σ hf ownb E Ob nx Ea base
  qui : q = true → Quiet base C ∧ ∀ a k, base a ≠ none → own a = some k → k < nb
  nbx : nb ≤ nx
  alr : AlR p c σ hf nx al ala
  fre : ∀ x ∈ al, fl.contains x.1 = false → C (tokOf (child p (c + x.1))) = none
  idx : (al.map (·.1)).Nodup
section
variable (call : CallT) (P : Program)
def VRunD (ops : Array Oper) (B : List (List Nat)) (l : List Oper) (i : Nat) (E : Env) (O Ob : Objs) (nx nb : Nat) (q : Bool) (al : List (Nat × Nat × Obj)) (fl : List Nat) (K : Env → Objs → Nat → Prop) : Prop :=
  ∀ (p c : Nat) (h0 : LB) (σ : Nat → Option Nat) (hf : AH) (own ownb : Nat → Option Nat) (Ea : Nat → Value) (base C : AH) (ala : List (Nat × AObj)), SRD p c h0 σ hf own ownb E O Ob nx nb q al fl Ea base C ala →
    RunD call P p c ops B base l i Ea C ala fl (fun E' C' al' fl' => KK p h0 K E' (AE.lay p c (fun a => !fl'.contains a) al' C'))
end
section
variable {call : CallT} {P : Program} {ops : Array Oper} {B : List (List Nat)} {o : Oper} {l : List Oper} {E : Env} {O O' Ob OL1 : Objs} {nx nx' nb i i' : Nat} {q : Bool} {al : List (Nat × Nat × Obj)} {fl bi : List Nat} {t : T} {obj : Obj} {K : Env → Objs → Nat → Prop}
theorem SRD.put {p c : Nat} {h0 : LB} {hf base C : AH} {σ own ownb : Nat → Option Nat} {Ea : Nat → Value} {ala : List (Nat × AObj)} {v : Value} (hs : SRD p c h0 σ hf own ownb E O Ob nx nb q al fl Ea base C ala) (hv : V σ hf nx t v) (d : Option Tmp) : SRD p c h0 σ hf own ownb (pE E d t) O Ob nx nb q al fl (putE Ea d v) base C ala :=
  ⟨hs.cur.put hv d, hs.bas.put hv d, hs.qui, hs.nbx, hs.alr, hs.fre, hs.idx⟩
theorem VRunD.nil (hk : K E (layO (fun a => !fl.contains a) al O) nx) : VRunD call P ops B [] i E O Ob nx nb q al fl K := fun p c h0 σ hf own ownb Ea base C ala hs => by
  obtain ⟨⟨own', h1, _⟩, _⟩ := hs.cur.lay (fun a => !fl.contains a) hs.alr (fun x hx hc => hs.fre x hx (by simpa using hc)) hs.idx
  exact RunD.nil ⟨σ, hf, own', E, _, nx, h1, hk⟩
theorem VRunD.off (hi : i + 1 = i') (hw : VWant ops E o false) (hk : VRunD call P ops B l i' (pE E o.dst (.tup [])) O Ob nx nb q al fl K) : VRunD call P ops B (o :: l) i E O Ob nx nb q al fl K := fun p c h0 σ hf own ownb Ea base C ala hs =>
  RunD.off hi (hw σ hf nx Ea hs.cur.env) (hk p c h0 σ hf own ownb _ base C ala (hs.put Vundef0 _))
theorem VRunD.free {d : Option Tmp} {op : Op} {ty : TypeId} {ps : String} {af : Array Edge} {g : Option (Nat × Bool)} (hi : i + 1 = i') (hw : VWant ops E ⟨d, op, ty, ps, af, g⟩ true) (hc : cls P op = .free) (hx : OF call P E ⟨d, op, ty, ps, af, g⟩ t) (hk : VRunD call P ops B l i' (pE E d t) O Ob nx nb q al fl K) :
    VRunD call P ops B (⟨d, op, ty, ps, af, g⟩ :: l) i E O Ob nx nb q al fl K := fun p c h0 σ hf own ownb Ea base C ala hs => by
  obtain ⟨v, h1, h2⟩ := hx (child p (c + i)) σ hf nx Ea (fun _ => none) hs.cur.env
  exact RunD.pure hi rfl (hw σ hf nx Ea hs.cur.env) hc h1 (hk p c h0 σ hf own ownb _ base C ala (hs.put h2 _))
theorem VRunD.look {d : Option Tmp} {op : Op} {ty : TypeId} {ps : String} {af : Array Edge} {g : Option (Nat × Bool)} (hi : i + 1 = i') (hw : VWant ops E ⟨d, op, ty, ps, af, g⟩ true) (hc : cls P op = .look) (hx : OL call P E Ob ⟨d, op, ty, ps, af, g⟩ t) (hk : VRunD call P ops B l i' (pE E d t) O Ob nx nb q al fl K) :
    VRunD call P ops B (⟨d, op, ty, ps, af, g⟩ :: l) i E O Ob nx nb q al fl K := fun p c h0 σ hf own ownb Ea base C ala hs => by
  obtain ⟨v, h1, h2⟩ := hx (child p (c + i)) p h0 σ hf ownb nx Ea base hs.bas
  exact RunD.look hi rfl (hw σ hf nx Ea hs.cur.env) hc h1 (hk p c h0 σ hf own ownb _ base C ala (hs.put h2 _))
theorem VRunD.make {d : Option Tmp} {op : Op} {ty : TypeId} {ps : String} {af : Array Edge} {g : Option (Nat × Bool)} (hi : i + 1 = i') (hw : VWant ops E ⟨d, op, ty, ps, af, g⟩ true) (hc : cls P op = .free) (hx : OM call P E nx ⟨d, op, ty, ps, af, g⟩ t obj) (hk : VRunD call P ops B l i' (pE E d t) O Ob (nx + 1) nb q (al ++ [(i, nx, obj)]) fl K) :
    VRunD call P ops B (⟨d, op, ty, ps, af, g⟩ :: l) i E O Ob nx nb q al fl K := fun p c h0 σ hf own ownb Ea base C ala hs => by
  obtain ⟨v, z, oa, N, h1, h2, h3, h4⟩ := hx (child p (c + i)) σ hf Ea hs.cur.env
  unfold RunD
  intro hfc hlt
  have hnC : C (tokOf (child p (c + i))) = none := hfc (c + i) _ (Nat.le_refl _) (tokOf_under _)
  have hσ : ∀ k, k < nx → (fun k => if k = nx then oa else σ k) k = σ k := fun k hk => if_neg (by omega)
  have hlt' : ∀ x ∈ al, x.1 < i := fun x hx => by
    have : x.1 ∈ ala.map (·.1) := by rw [hs.alr.idx]; exact List.mem_map_of_mem hx
    obtain ⟨y, hy, e⟩ := List.mem_map.1 this
    rw [← e]; exact hlt y hy
  have hcur := hs.cur.ext (nx' := nx + 1) (σ' := fun k => if k = nx then oa else σ k) (own' := own) (h' := C) (by omega) hσ (fun _ _ e => e) (fun _ _ e => .inl e) (fun _ _ => rfl) hs.cur.dom
  have hbas := hs.bas.ext (nx' := nx + 1) (σ' := fun k => if k = nx then oa else σ k) (own' := ownb) (h' := base) (by omega) hσ (fun _ _ e => e) (fun _ _ e => .inl e) (fun _ _ => rfl) hs.bas.dom
  have hnew : SRD p c h0 (fun k => if k = nx then oa else σ k) hf own ownb E O Ob (nx + 1) nb q (al ++ [(i, nx, obj)]) fl Ea base C (ala ++ [(i, z)]) := by
    refine ⟨hcur, hbas, hs.qui, Nat.le_succ_of_le hs.nbx, (hs.alr.mono (by omega) hσ).snoc (N := N) (by omega) ?_ ?_, fun x hx hn => ?_, ?_⟩
    · simpa using h2
    · simpa using h4
    · rcases List.mem_append.1 hx with h5 | h5
      · exact hs.fre x h5 hn
      · obtain rfl := List.mem_singleton.1 h5
        exact hnC
    · rw [List.map_append, List.nodup_append]
      refine ⟨hs.idx, by simp, fun a ha b hb => ?_⟩
      obtain ⟨x, hx, rfl⟩ := List.mem_map.1 ha
      obtain rfl : b = i := by simpa using hb
      have := hlt' x hx
      omega
  have := RunD.make (call := call) (P := P) (π := p) (c := c) (i := i) (ops := ops) (B := B) (base := base) (r := l) (fl := fl) (C := C) (al := ala) (D := fun E' C' al' fl' => KK p h0 K E' (AE.lay p c (fun a => !fl'.contains a) al' C')) hi rfl (hw σ hf nx Ea hs.cur.env) hc (h1 _)
    (hk p c h0 _ hf own ownb _ base C _ (hnew.put h3 d))
  unfold RunD at this
  exact this hfc hlt
theorem SRD.laid {p c : Nat} {h0 : LB} {hf base C : AH} {σ own ownb : Nat → Option Nat} {Ea : Nat → Value} {ala : List (Nat × AObj)} (hs : SRD p c h0 σ hf own ownb E O Ob nx nb q al fl Ea base C ala) (bi : List Nat) :
    (∃ own', SR p h0 σ hf own' E (layO (fun a => bi.contains a && !fl.contains a) al O) nx Ea (AE.lay p c (fun a => bi.contains a && !fl.contains a) ala C) ∧ ∀ a k, own' a = some k → own a = some k ∨ C a = none) ∧ (∀ t, C t ≠ none → AE.lay p c (fun a => bi.contains a && !fl.contains a) ala C t = C t) ∧
      ∀ j, (∀ x ∈ al, (bi.contains x.1 && !fl.contains x.1) = true → x.1 ≠ j) → AE.lay p c (fun a => bi.contains a && !fl.contains a) ala C (tokOf (child p (c + j))) = C (tokOf (child p (c + j))) :=
  hs.cur.lay (fun a => bi.contains a && !fl.contains a) hs.alr (fun x hx hc => hs.fre x hx (by simp only [Bool.and_eq_true, Bool.not_eq_true'] at hc; exact hc.2)) hs.idx
theorem VRunD.chainX {d : Option Tmp} {op : Op} {ty : TypeId} {ps : String} {af : Array Edge} {g : Option (Nat × Bool)} {q' : Bool} {ks : List Nat} (hi : i + 1 = i') (hw : VWant ops E ⟨d, op, ty, ps, af, g⟩ true) (hc : cls P op = .chain) (hb : B.getD i [] = bi) (hl : layO (fun a => bi.contains a && !fl.contains a) al O = OL1)
    (hx : (allLook P ops bi = true ∧ q' = false) ∨ (q = true ∧ q' = true ∧ ∀ k ∈ ks, nb ≤ k)) (hop : OC call P E OL1 nx ⟨d, op, ty, ps, af, g⟩ t O' nx' ks) (hk : VRunD call P ops B l i' (pE E d t) O' Ob nx' nb q' al (bi ++ fl) K) :
    VRunD call P ops B (⟨d, op, ty, ps, af, g⟩ :: l) i E O Ob nx nb q al fl K := fun p c h0 σ hf own ownb Ea base C ala hs => by
  subst hl
  unfold RunD
  intro hfc hlt
  obtain ⟨⟨own1, g1, g4⟩, g2, g3⟩ := hs.laid bi
  have hlt' : ∀ x ∈ al, x.1 < i := fun x hx => by
    have : x.1 ∈ ala.map (·.1) := by rw [hs.alr.idx]; exact List.mem_map_of_mem hx
    obtain ⟨y, hy, e⟩ := List.mem_map.1 this
    rw [← e]; exact hlt y hy
  have hfl : FrC p (c + i) (AE.lay p c (fun a => bi.contains a && !fl.contains a) ala C) := lay_frc hfc hlt
  have hfr : Fr (child p (c + i)) (AE.lay p c (fun a => bi.contains a && !fl.contains a) ala C) := FrC.fr hfl (Nat.le_refl _)
  have hnn := hop.1
  obtain ⟨v, h', σ', own', a1, a2, a3, a4, a5, a6, a7⟩ := hop.2 (child p (c + i)) p h0 σ hf own1 Ea _ g1 (fun t ht => .inl (under_child ht)) hfr
  have hq : (allLook P ops bi = true ∧ q' = false) ∨ (Quiet base h' ∧ ∀ a k, base a ≠ none → own' a = some k → k < nb) := by
    rcases hx with hx | ⟨x1, x2, x3⟩
    · exact .inl hx
    · obtain ⟨y1, y2⟩ := hs.qui x1
      have y3 : ∀ u, base u ≠ none → C u ≠ none := fun u hu => by rw [y1 u hu]; exact hu
      have y4 : ∀ u k, base u ≠ none → own1 u = some k → k < nb := fun u k hu hk1 => by
        rcases g4 u k hk1 with e | e
        · exact y2 u k hu e
        · exact absurd e (y3 u hu)
      refine .inr ⟨fun u hu => ?_, fun u k hu hk1 => ?_⟩
      · have e2 := g2 u (y3 u hu)
        rw [a6 u (by rw [e2]; exact y3 u hu) (fun k hk2 e => by have := y4 u k hu e; have := x3 k hk2; omega), e2, y1 u hu]
      · rcases a7 u k hk1 with e | e | ⟨k2, hk2, e⟩
        · exact y4 u k hu e
        · rw [g2 u (y3 u hu)] at e
          exact absurd e (y3 u hu)
        · have := y4 u k2 hu e
          have := x3 k2 hk2
          omega
  have hnew : SRD p c h0 σ' hf own' ownb E O' Ob nx' nb q' al (bi ++ fl) Ea base h' ala := by
    refine ⟨a4, hs.bas.ext hnn a3 (fun _ _ e => e) (fun _ _ e => .inl e) (fun _ _ => rfl) hs.bas.dom, fun e => ?_, Nat.le_trans hs.nbx hnn, hs.alr.mono hnn a3, fun x hx hn => ?_, hs.idx⟩
    · rcases hq with ⟨_, hq⟩ | hq
      · rw [hq] at e; cases e
      · exact hq
    · rw [List.contains_eq_any_beq, List.any_append, Bool.or_eq_false_iff, ← List.contains_eq_any_beq, ← List.contains_eq_any_beq] at hn
      have e1 : AE.lay p c (fun a => bi.contains a && !fl.contains a) ala C (tokOf (child p (c + x.1))) = none := by
        rw [g3 x.1 (fun y hy hcy e => ?_)]
        · exact hs.fre x hx hn.2
        · rw [e, hn.1] at hcy
          cases hcy
      cases hh : h' (tokOf (child p (c + x.1))) with
      | none => rfl
      | some z =>
        rcases a2 _ (by rw [hh]; simp) with h5 | h5
        · exact absurd e1 h5
        · have h6 := Under.apart (tokOf_under (child p (c + x.1))) h5
          have := hlt' x hx
          omega
  have := RunD.chain (call := call) (P := P) (π := p) (c := c) (i := i) (ops := ops) (B := B) (base := base) (r := l) (fl := fl) (C := C) (al := ala) (D := fun E' C' al' fl' => KK p h0 K E' (AE.lay p c (fun a => !fl'.contains a) al' C')) hi rfl (hw σ hf nx Ea hs.cur.env) hc hb rfl a1
    (hq.imp (fun e => e.1) (fun e => e.1)) (fun _ => a2) (fun _ => hk p c h0 σ' hf own' ownb _ base h' ala (hnew.put a5 d))
  unfold RunD at this
  exact this hfc hlt
theorem VRunD.chain {d : Option Tmp} {op : Op} {ty : TypeId} {ps : String} {af : Array Edge} {g : Option (Nat × Bool)} {ks : List Nat} (hi : i + 1 = i') (hw : VWant ops E ⟨d, op, ty, ps, af, g⟩ true) (hc : cls P op = .chain) (hb : B.getD i [] = bi) (hl : layO (fun a => bi.contains a && !fl.contains a) al O = OL1)
    (ha : allLook P ops bi = true) (hx : OC call P E OL1 nx ⟨d, op, ty, ps, af, g⟩ t O' nx' ks) (hk : VRunD call P ops B l i' (pE E d t) O' Ob nx' nb false al (bi ++ fl) K) :
    VRunD call P ops B (⟨d, op, ty, ps, af, g⟩ :: l) i E O Ob nx nb q al fl K := VRunD.chainX hi hw hc hb hl (.inl ⟨ha, rfl⟩) hx hk
theorem VRunD.quiet {d : Option Tmp} {op : Op} {ty : TypeId} {ps : String} {af : Array Edge} {g : Option (Nat × Bool)} {ks : List Nat} (hi : i + 1 = i') (hw : VWant ops E ⟨d, op, ty, ps, af, g⟩ true) (hc : cls P op = .chain) (hb : B.getD i [] = bi) (hl : layO (fun a => bi.contains a && !fl.contains a) al O = OL1)
    (hn : ∀ k ∈ ks, nb ≤ k) (hx : OC call P E OL1 nx ⟨d, op, ty, ps, af, g⟩ t O' nx' ks) (hk : VRunD call P ops B l i' (pE E d t) O' Ob nx' nb true al (bi ++ fl) K) :
    VRunD call P ops B (⟨d, op, ty, ps, af, g⟩ :: l) i E O Ob nx nb true al fl K := VRunD.chainX hi hw hc hb hl (.inr ⟨rfl, rfl, hn⟩) hx hk
theorem VRun.draw {id : Nat} {Q : AX → Env → Objs → Nat → Prop} (hB : befs ops.toList [] = B) (hok : okD P ops B = true) (hx : VRunD call P ops B ops.toList 0 E O O nx nx true [] [] (Q .normal)) : VRun call P (.region id ops true) E O nx Q := by
  unfold VRun
  exact fun p h0 σ hf own Ea h c hs => Run.draw rfl hB hok (hx p c h0 σ hf own own Ea h h [] ⟨hs, hs, fun _ => ⟨fun t _ => rfl, fun a k _ e => (hs.mine a k e).2.2.2⟩, Nat.le_refl _, .nil, fun x hx => (by cases hx), (by simp)⟩)
end
attribute [irreducible] VRunD
end Go.Proofs.Ythdnjihmjdbdkaa.AE
