/- Functions over trees: how a call begins and ends; states that tell less. Conditions: none. -/
import Derived.Test.YthdnjihmjdbdkaaVlCall
namespace Go.Proofs.Ythdnjihmjdbdkaa.AE
open Go Go.RowKit
set_option linter.unusedVariables false
set_option linter.unusedSimpArgs false
/-! ### giving -/
mutual
theorem S.clean {hf hf' h : AH} : ∀ {t : T} {v : Value} {N : List Nat}, S hf h t v N → Clean t → S hf' h t v N
  | _, _, _, .fz hr, hc => .fz (hr.clean hc hf')
  | _, _, _, .ow0 sz, hc => .ow0 sz
  | _, _, _, .owe sz a o, hc => .owe sz a o
  | _, _, _, .ow sz rows m hm hk hodd hlen hfit hs, .sl _ _ hc => .ow sz rows m hm hk hodd hlen hfit (SL.clean hs (fun t ht => by
      obtain ⟨r, hr, htr⟩ := List.mem_flatten.1 ht
      exact hc r hr t htr))
  | _, _, _, .agg hs, .agg _ hc => .agg (SL.clean hs hc)
  | _, _, _, .tup hs, .tup _ hc => .tup (SL.clean hs hc)
theorem SL.clean {hf hf' h : AH} : ∀ {t : List T} {v : List Value} {N : List Nat}, SL hf h t v N → (∀ x ∈ t, Clean x) → SL hf' h t v N
  | _, _, _, .nil, hc => .nil
  | _, _, _, .cons hs hr, hc => .cons (S.clean hs (hc _ (by simp))) (SL.clean hr (fun x hx => hc x (by simp [hx])))
end
def Give (O : Objs) (ks : List Nat) (t r : T) : Prop := ∀ (p : Nat) (h0 : LB) (σ : Nat → Option Nat) (hf : AH) (own : Nat → Option Nat) (E : Env) (nx : Nat) (Ea : Nat → Value) (h : AH) (v : Value), SR p h0 σ hf own E O nx Ea h → V σ hf nx t v → ∃ N, S (fun _ => none) h r v N ∧ N.Nodup ∧ ∀ a ∈ N, ∃ k ∈ ks, own a = some k
def GiveL (O : Objs) (ks : List Nat) (ts rs : List T) : Prop := ∀ (p : Nat) (h0 : LB) (σ : Nat → Option Nat) (hf : AH) (own : Nat → Option Nat) (E : Env) (nx : Nat) (Ea : Nat → Value) (h : AH) (vs : List Value), SR p h0 σ hf own E O nx Ea h → VL σ hf nx ts vs → ∃ N, SL (fun _ => none) h rs vs N ∧ N.Nodup ∧ ∀ a ∈ N, ∃ k ∈ ks, own a = some k
section
variable {O : Objs} {ks ks2 : List Nat} {t r : T} {ts rs : List T}
theorem Give.pl (h : isPl t = true) (hc : Clean t) : Give O [] t t := fun p h0 σ hf own E nx Ea H v hs hv => ⟨[], .fz ((hv.pl h).clean hc _), by simp, by simp⟩
theorem Give.bool (b : Bool) : Give O [] (.bool b) (.bool b) := .pl rfl (.bool b)
theorem Give.int (k : IntKind) (n : Int) : Give O [] (.int k n) (.int k n) := .pl rfl (.int k n)
theorem Give.str (s : ByteArray) : Give O [] (.str s) (.str s) := .pl rfl (.str s)
theorem Give.nils (sz : Nat) : Give O [] .nils (.sl true sz []) := fun p h0 σ hf own E nx Ea H v hs hv => by
  obtain rfl := hv.nilsInv
  exact ⟨[], .ow0 sz, by simp, by simp⟩
theorem Give.os {sz k n : Nat} {rows : List (List T)} (hk : gO O k = some (.rows sz rows)) (hn : n = rows.length) (hc : ∀ r ∈ rows, ∀ t ∈ r, Clean t) : Give O [k] (.os sz k 0 n) (.sl true sz rows) := fun p h0 σ hf own E nx Ea h v hs hv => by
  subst hn
  obtain ⟨N, hN1, hN2, h3⟩ := hs.objAt hk
  obtain ⟨hk', ⟨a, m, rfl, h4, h5⟩ | ⟨h4, _, h5, h6⟩⟩ := hv.osInv
  · rw [h4] at h3
    cases h3 with
    | rows hh hodd hlen hfit hsl =>
      rename_i cs N
      rw [Nat.zero_mul]
      exact ⟨a :: N, .ow sz rows m h5 hh hodd hlen hfit (hsl.clean (fun t ht => by
        obtain ⟨r, hr, htr⟩ := List.mem_flatten.1 ht
        exact hc r hr t htr)), hN1, fun b hb => ⟨k, by simp, hN2 b hb⟩⟩
  · obtain rfl := List.eq_nil_of_length_eq_zero h5
    rcases h6 with rfl | ⟨a, o, rfl⟩
    · exact ⟨[], .ow0 sz, by simp, by simp⟩
    · exact ⟨[], .owe sz a o, by simp, by simp⟩
theorem GiveL.nil : GiveL O [] [] [] := fun p h0 σ hf own E nx Ea h vs hs hv => by
  obtain rfl := List.eq_nil_of_length_eq_zero hv.1.symm
  exact ⟨[], .nil, by simp, by simp⟩
theorem GiveL.cons (h1 : Give O ks t r) (h2 : GiveL O ks2 ts rs) (hd : ∀ k ∈ ks, k ∉ ks2) : GiveL O (ks ++ ks2) (t :: ts) (r :: rs) := fun p h0 σ hf own E nx Ea h vs hs hv => by
  obtain ⟨v, l, rfl, g1, g2⟩ := hv.tail
  obtain ⟨N, a1, a2, a3⟩ := h1 p h0 σ hf own E nx Ea h v hs g1
  obtain ⟨M, b1, b2, b3⟩ := h2 p h0 σ hf own E nx Ea h l hs g2
  refine ⟨N ++ M, .cons a1 b1, ?_, fun a ha => ?_⟩
  · rw [List.nodup_append]
    refine ⟨a2, b2, fun a ha b hb e => ?_⟩
    subst e
    obtain ⟨k, hk, e1⟩ := a3 a ha
    obtain ⟨k2, hk2, e2⟩ := b3 a hb
    rw [e1] at e2
    exact hd k hk (by rw [Option.some.inj e2]; exact hk2)
  · rcases List.mem_append.1 ha with ha | ha
    · obtain ⟨k, hk, e⟩ := a3 a ha
      exact ⟨k, by simp [hk], e⟩
    · obtain ⟨k, hk, e⟩ := b3 a ha
      exact ⟨k, by simp [hk], e⟩
theorem Give.agg (h : GiveL O ks ts rs) : Give O ks (.agg ts) (.agg rs) := fun p h0 σ hf own E nx Ea H v hs hv => by
  obtain ⟨l, rfl, h1⟩ := hv.aggL
  obtain ⟨N, a1, a2, a3⟩ := h p h0 σ hf own E nx Ea H l hs h1
  exact ⟨N, .agg a1, a2, a3⟩
end
/-- What a function's results read as. -/
inductive VRes (P : Program) (E : Env) (O : Objs) : List ResultVar → List T → Prop
  | nil : VRes P E O [] []
  | tmp {a : Tmp} {t : T} {rs : List ResultVar} {ts : List T} (h : gE E a = t) (hr : VRes P E O rs ts) : VRes P E O (.tmp a :: rs) (t :: ts)
  | cell1 {a : Tmp} {tt : TypeId} {k o : Nat} {us : List T} {t : T} {rs : List ResultVar} {ts : List T} (h : gE E a = .op k o) (hk : gO O k = some (.cells us)) (ht : us[o]? = some t) (hst : isStruct P tt = some false) (hr : VRes P E O rs ts) : VRes P E O (.cell a tt :: rs) (t :: ts)
  | celln {a : Tmp} {tt : TypeId} {k o n : Nat} {us ws : List T} {rs : List ResultVar} {ts : List T} (h : gE E a = .op k o) (hk : gO O k = some (.cells us)) (hst : isStruct P tt = some true) (hn : P.cellsOf tt = n) (hle : o + n ≤ us.length) (hu : (us.drop o).take n = ws) (hr : VRes P E O rs ts) : VRes P E O (.cell a tt :: rs) (.agg ws :: ts)
def oneT : List T → T
  | [t] => t
  | l => .tup l
theorem V.aload1 {P : Program} {p nx : Nat} {h0 : LB} {hf h : AH} {σ own : Nat → Option Nat} {E : Env} {O : Objs} {Ea : Nat → Value} {tt : TypeId} {k o : Nat} {us : List T} {t : T} {v : Value} (hs : SR p h0 σ hf own E O nx Ea h) (hv : V σ hf nx (.op k o) v) (hk : gO O k = some (.cells us)) (ht : us[o]? = some t) (hst : isStruct P tt = some false) :
    ∃ w, aload P tt h v = some w ∧ V σ hf nx t w := by
  obtain ⟨a, rfl, h3, h4⟩ := hv.opInv
  obtain ⟨N, hN1, hN2, h5⟩ := hs.objAt hk
  rw [h3] at h5
  cases h5 with
  | cells hh hodd hv =>
    rename_i es cs
    have hlt : o < us.length := (List.getElem?_eq_some_iff.1 ht).1
    have hlt' : o < cs.length := by rw [← hv.1]; exact hlt
    have h6 := hv.2 o hlt
    rw [List.getD_eq_getElem?_getD, ht, List.getD_eq_getElem?_getD, List.getElem?_eq_getElem hlt'] at h6
    exact ⟨cs[o], aload_one hst hh (List.getElem?_eq_getElem hlt'), h6⟩
theorem V.aloadn {P : Program} {p nx : Nat} {h0 : LB} {hf h : AH} {σ own : Nat → Option Nat} {E : Env} {O : Objs} {Ea : Nat → Value} {tt : TypeId} {k o n : Nat} {us : List T} {v : Value} (hs : SR p h0 σ hf own E O nx Ea h) (hv : V σ hf nx (.op k o) v) (hk : gO O k = some (.cells us)) (hst : isStruct P tt = some true) (hn : P.cellsOf tt = n) (hle : o + n ≤ us.length) :
    ∃ w, aload P tt h v = some w ∧ V σ hf nx (.agg ((us.drop o).take n)) w := by
  obtain ⟨a, rfl, h3, h4⟩ := hv.opInv
  obtain ⟨N, hN1, hN2, h5⟩ := hs.objAt hk
  rw [h3] at h5
  cases h5 with
  | cells hh hodd hv =>
    rename_i es cs
    have hl := hv.1
    refine ⟨_, aload_row hst hn hh (by omega) rfl, VL.toAgg ⟨by simp; omega, fun i hi => ?_⟩⟩
    have hi' : i < n := by simp at hi; omega
    have := hv.2 (o + i) (by omega)
    rw [List.getD_eq_getElem?_getD, List.getElem?_take, if_pos hi', List.getElem?_drop, ← List.getD_eq_getElem?_getD, List.getD_eq_getElem?_getD (l := List.take _ _), List.getElem?_take, if_pos hi', List.getElem?_drop, ← List.getD_eq_getElem?_getD]
    exact this
theorem VRes.run {P : Program} {p nx : Nat} {h0 : LB} {hf h : AH} {σ own : Nat → Option Nat} {E : Env} {O : Objs} {Ea : Nat → Value} (hs : SR p h0 σ hf own E O nx Ea h) {rs : List ResultVar} {ts : List T} (hr : VRes P E O rs ts) : ∃ l, ares P h Ea rs = some l ∧ VL σ hf nx ts l := by
  induction hr with
  | nil => exact ⟨[], rfl, VL.nil _ _ _⟩
  | tmp h1 _ ih =>
    obtain ⟨l, h2, h3⟩ := ih
    exact ⟨_, ares_tmp rfl h2, .cons (h1 ▸ hs.env _) h3⟩
  | cell1 h1 hk ht hst _ ih =>
    obtain ⟨l, h2, h3⟩ := ih
    obtain ⟨w, h4, h5⟩ := V.aload1 hs (h1 ▸ hs.env _) hk ht hst
    exact ⟨_, ares_cell rfl h4 h2, .cons h5 h3⟩
  | celln h1 hk hst hn hle hu _ ih =>
    obtain ⟨l, h2, h3⟩ := ih
    obtain ⟨w, h4, h5⟩ := V.aloadn hs (h1 ▸ hs.env _) hk hst hn hle
    subst hu
    exact ⟨_, ares_cell rfl h4 h2, .cons h5 h3⟩
/-- How a call ends: the results are given. -/
def vfin (P : Program) (rs : List ResultVar) (r : T) : AX → Env → Objs → Nat → Prop
  | .exit _, _, _, _ => False
  | _, E, O, _ => ∃ ts ks, VRes P E O rs ts ∧ Give O ks (oneT ts) r
theorem vfin.r {P : Program} {rs : List ResultVar} {r : T} {E : Env} {O : Objs} {nx : Nat} {ts : List T} {ks : List Nat} (h : VRes P E O rs ts) (hg : Give O ks (oneT ts) r) : vfin P rs r .ret E O nx := ⟨ts, ks, h, hg⟩
theorem vfin.n {P : Program} {rs : List ResultVar} {r : T} {E : Env} {O : Objs} {nx : Nat} {ts : List T} {ks : List Nat} (h : VRes P E O rs ts) (hg : Give O ks (oneT ts) r) : vfin P rs r .normal E O nx := ⟨ts, ks, h, hg⟩
/-- Two or more. -/
theorem Give.tup {O : Objs} {ks : List Nat} {ts rs : List T} (h : GiveL O ks ts rs) : Give O ks (.tup ts) (.tup rs) := fun p h0 σ hf own E nx Ea H v hs hv => by
  obtain ⟨l, rfl, h1⟩ := hv.tupL
  obtain ⟨N, a1, a2, a3⟩ := h p h0 σ hf own E nx Ea H l hs h1
  exact ⟨N, .tup a1, a2, a3⟩
theorem closed1_names {hf h : AH} {t : T} {v : Value} {N : List Nat} (hs : S hf h t v N) (hc : closed1 v = true) : N = [] ∧ ∀ h', S hf h' t v [] := by
  cases hs with
  | fz hr => exact ⟨rfl, fun _ => .fz hr⟩
  | ow0 sz => exact ⟨rfl, fun _ => .ow0 sz⟩
  | owe sz a o => simp [closed1] at hc
  | ow sz rows m hm hk hodd hlen hfit hs => simp [closed1] at hc
  | agg hs => simp [closed1] at hc
  | tup hs => simp [closed1] at hc
theorem closedL_names {hf h : AH} : ∀ {ts : List T} {vs : List Value} {N : List Nat}, SL hf h ts vs N → vs.all closed1 = true → N = [] ∧ ∀ h', SL hf h' ts vs []
  | _, _, _, .nil, _ => ⟨rfl, fun _ => .nil⟩
  | _, _, _, .cons hs hr, hc => by
    rw [List.all_cons, Bool.and_eq_true] at hc
    obtain ⟨rfl, h1⟩ := closed1_names hs hc.1
    obtain ⟨rfl, h2⟩ := closedL_names hr hc.2
    exact ⟨rfl, fun h' => .cons (N := []) (M := []) (h1 h') (h2 h')⟩
theorem tokenless_names {hf h : AH} {t : T} {v : Value} {N : List Nat} (hs : S hf h t v N) (hc : tokenless v = true) : N = [] ∧ ∀ h', S hf h' t v [] := by
  cases hs with
  | fz hr => exact ⟨rfl, fun _ => .fz hr⟩
  | ow0 sz => exact ⟨rfl, fun _ => .ow0 sz⟩
  | owe sz a o => simp [tokenless, closedV, closed1] at hc
  | ow sz rows m hm hk hodd hlen hfit hs => simp [tokenless, closedV, closed1] at hc
  | agg hs =>
    obtain ⟨rfl, h1⟩ := closedL_names hs (by simpa [tokenless, closedV] using hc)
    exact ⟨rfl, fun h' => .agg (h1 h')⟩
  | tup hs =>
    obtain ⟨rfl, h1⟩ := closedL_names hs (by simpa [tokenless] using hc)
    exact ⟨rfl, fun h' => .tup (h1 h')⟩
def tenv : Nat → List T → Env
  | _, [] => []
  | n, t :: r => (n, t) :: tenv (n + 1) r
theorem gE_tenv : ∀ (ts : List T) (n i : Nat), gE (tenv n ts) i = if i < n then .any else ts.getD (i - n) .any
  | [], n, i => by simp [tenv, gE]
  | t :: r, n, i => by
    simp only [tenv, gE, gE_tenv r]
    by_cases h : i = n
    · subst h; simp
    · by_cases h2 : i < n
      · simp [h, h2, show i < n + 1 by omega]
      · have e : i - n = (i - (n + 1)) + 1 := by omega
        rw [if_neg h, if_neg (by omega), if_neg h2, e, List.getD_cons_succ]
theorem Pure.intro {P : Program} {f : FuncId} {fn : Func} {c : Code} {n : Nat} {ts : List T} {r : T} (hf : P.funcs[f]? = some fn) (hb : fn.body = some c) (hc : boundsC fn.ntmps c = true) {rs : List ResultVar} (hrs : fn.results.toList = rs) {E0 : Env} (hE : tenv 0 ts = E0) (hr : VRun (acall P n) P c E0 [] 0 (vfin P rs r)) : Pure (acall P (n + 1)) f ts r := by
  subst hE
  intro h p vs hfr hvs
  have hs : SR p ⟨h, fun _ => False⟩ (fun _ => none) h (fun _ => none) (tenv 0 ts) [] 0 (fun t => vs.getD t undef) h := by
    refine ⟨fun t => ?_, fun k o hk => (by cases hk), fun a o ha => ⟨ha, rfl⟩, fun a k ha => (by cases ha), fun _ _ => rfl, fun t ht => .inl ht⟩
    rw [gE_tenv, if_neg (by omega), Nat.sub_zero]
    rcases Nat.lt_or_ge t ts.length with h1 | h1
    · exact .fz (hvs.2 t h1)
    · rw [List.getD_eq_getElem?_getD, List.getElem?_eq_none h1]
      exact .any _
  unfold VRun at hr
  refine CallS.intro (Q := fun v h' => Quiet h h' ∧ RES p h h' r v) hf hb hc hfr hrs (Run.mono (hr p _ _ h _ _ h 0 hs) ?_)
  rintro e s' ⟨σ, hf', own, E, O, nx, h1, h2⟩
  have key : (∃ ts ks, VRes P E O rs ts ∧ Give O ks (oneT ts) r) → ∃ l, ares P s'.h s'.E rs = some l ∧ (fun v h' => Quiet h h' ∧ RES p h h' r v) (oneV l) (if tokenless (oneV l) then bound h s'.h else mask p h s'.h) := by
    rintro ⟨us, ks, g1, g2⟩
    obtain ⟨l, g3, g4⟩ := g1.run h1
    have g5 : V σ hf' nx (oneT us) (oneV l) := by
      have hlen := g4.1
      match us, l, g4, hlen with
      | [], [], g4, _ => exact g4.toTup
      | [t], [v], g4, _ =>
        obtain ⟨v', r', e, g6, _⟩ := g4.tail
        cases e
        exact g6
      | t :: t' :: us, v :: v' :: l, g4, _ => exact g4.toTup
      | [], _ :: _, _, hl => cases hl
      | [_], [], _, hl => cases hl
      | [_], _ :: _ :: _, _, hl => cases hl
      | _ :: _ :: _, [], _, hl => cases hl
      | _ :: _ :: _, [_], _, hl => cases hl
    obtain ⟨N, g6, g7, g8⟩ := g2 p _ σ hf' own E nx s'.E s'.h _ h1 g5
    have hq : Quiet h s'.h := fun a ha => by
      have e1 : hf' a = h a := h1.base a ha
      obtain ⟨o, ho⟩ := Option.ne_none_iff_exists'.1 ha
      rw [ho] at e1
      rw [(h1.fro a o e1).1, ho]
    refine ⟨l, g3, ?_⟩
    by_cases ht : tokenless (oneV l) = true
    · rw [if_pos ht, bound_quiet hq]
      obtain ⟨rfl, g9⟩ := tokenless_names g6 ht
      exact ⟨Quiet.refl _, [], g9 h, by simp, by simp⟩
    · rw [if_neg ht]
      have hN : ∀ a ∈ N, Under p a ∧ h a = none := fun a ha => by
        obtain ⟨k, _, e⟩ := g8 a ha
        exact ⟨(h1.mine a k e).1.elim id (fun z => z.elim), (h1.mine a k e).2.1⟩
      exact ⟨mask_quiet hq, N, g6.mono (fun _ _ e => e) (fun a ha => mask_eq (.inr (hN a ha).1)), g7, hN⟩
  cases e with
  | normal => unfold fin; exact key h2
  | ret => unfold fin; exact key h2
  | exit id => exact h2.elim
/-! ### states that tell less -/
open Classical in
/-- What is owned is held fast: it is read from now on. -/
theorem Wk.freeze {E : Env} {O : Objs} {nx sz k n : Nat} {rows rows' : List (List T)} (ds : List Nat) (hd : ∀ d ∈ ds, gE E d = .os sz k 0 n) (hk : gO O k = some (.rows sz rows)) (hn : n = rows.length) (hz : fzLL rows = rows') : Wk E O nx (ds.map (fun d => (d, .sl false sz rows')) ++ E) ((k, none) :: O) nx := fun p h0 σ hf own Ea h hs => by
  subst hn
  subst hz
  obtain ⟨N, hN1, hN2, h3⟩ := hs.objAt hk
  have hmono : ∀ a o, hf a = some o → (fun a => if own a = some k then h a else hf a) a = some o := fun a o ho => by
    have := (hs.fro a o ho).2
    simp only [this]
    rw [if_neg (by simp)]
    exact ho
  refine ⟨σ, fun a => if own a = some k then h a else hf a, fun a => if own a = some k then none else own a, fun t => ?_, fun k' o hk' => ?_, fun a o ha => ?_, fun a k' ha => ?_, fun a ha => ?_, hs.dom⟩
  · have hold : V σ (fun a => if own a = some k then h a else hf a) nx (gE E t) (Ea t) := (hs.env t).mono hmono (Nat.le_refl _) (fun _ _ => rfl)
    have key : ∀ ds : List Nat, (∀ d ∈ ds, gE E d = .os sz k 0 rows.length) → V σ (fun a => if own a = some k then h a else hf a) nx (gE (ds.map (fun d => (d, T.sl false sz (fzLL rows))) ++ E) t) (Ea t) := by
      intro ds
      induction ds with
      | nil => intro _; exact hold
      | cons d ds ih =>
        intro hd
        simp only [List.map_cons, List.cons_append, gE]
        split
        · rename_i e
          subst e
          have h4 := hs.env t
          rw [hd t (by simp)] at h4
          generalize Ea t = v at h4 ⊢
          obtain ⟨hk', ⟨a, m, rfl, h5, h6⟩ | ⟨_, _, h7, h8⟩⟩ := h4.osInv
          · rw [h5] at h3
            cases h3 with
            | rows hh hodd hlen hfit hsl =>
              have hS := S.ow sz rows m h6 hh hodd hlen hfit hsl
              have := hS.fzR (H := fun a => if own a = some k then h a else hf a) hmono (fun a ha o ho => by simp only [hN2 a ha, if_true]; exact ho)
              rw [Nat.zero_mul]
              exact .fz (by simpa only [fz] using this)
          · obtain rfl := List.eq_nil_of_length_eq_zero h7
            rcases h8 with rfl | ⟨a, o, rfl⟩
            · exact .fz (.sl0 sz)
            · exact .fz (.sle sz a o 0)
        · exact ih (fun d' hd' => hd d' (by simp [hd']))
    exact key ds hd
  · simp only [gO] at hk'
    split at hk'
    · cases hk'
    · rename_i hne
      obtain ⟨h1, M, h2, h4, h5⟩ := hs.obj k' o hk'
      refine ⟨h1, M, h2, fun a ha => ?_, h5.mono hmono (Nat.le_refl _) (fun _ _ => rfl) (fun _ _ => rfl)⟩
      have := h4 a ha
      simp only [this]
      rw [if_neg (fun e => hne (Option.some.inj e))]
  · split at ha
    · rename_i e
      exact ⟨ha, by simp only [e, if_true]⟩
    · rename_i e
      obtain ⟨h1, h2⟩ := hs.fro a o ha
      exact ⟨h1, by simp [h2]⟩
  · split at ha
    · cases ha
    · exact hs.mine a k' ha
  · have : own a ≠ some k := fun e => ha (hs.mine a k e).2.1
    simp only [if_neg this]
    exact hs.base a ha
/-- An empty slice is given a number. -/
theorem Wk.phantom {E : Env} {O : Objs} {nx : Nat} (d sz : Nat) (hd : gE E d = .nils) : Wk E O nx ((d, .os sz nx 0 0) :: E) ((nx, some (.rows sz [])) :: O) (nx + 1) := fun p h0 σ hf own Ea h hs => by
  have h1 := hs.take1 (oa := none) (N := []) (obj := .rows sz []) (by simp) (by simp) (fun _ _ => .none sz)
  refine ⟨_, hf, _, fun t => ?_, h1.obj, h1.fro, h1.mine, h1.base, h1.dom⟩
  simp only [gE]
  split
  · rename_i e
    subst e
    have h2 := hs.env t
    rw [hd] at h2
    rw [h2.nilsInv]
    exact .os0 sz nx (by omega) (by simp)
  · exact h1.env t
mutual
def ren (f : Nat → Nat) : T → T
  | .os sz k lo n => .os sz (f k) lo n
  | .op k o => .op (f k) o
  | .orp sz k i o => .orp sz (f k) i o
  | .om k => .om (f k)
  | .agg ts => .agg (renL f ts)
  | .tup ts => .tup (renL f ts)
  | .fn g ts => .fn g (renL f ts)
  | .sl b sz rows => .sl b sz rows
  | .any => .any
  | .bool b => .bool b
  | .int k n => .int k n
  | .str s => .str s
  | .ptr0 => .ptr0
  | .fn0 => .fn0
  | .nils => .nils
  | .rp cs => .rp cs
def renL (f : Nat → Nat) : List T → List T
  | [] => []
  | t :: r => ren f t :: renL f r
end
mutual
def tokLt (n : Nat) : T → Bool
  | .os _ k _ _ => decide (k < n)
  | .op k _ => decide (k < n)
  | .orp _ k _ _ => decide (k < n)
  | .om k => decide (k < n)
  | .agg ts => tokLtL n ts
  | .tup ts => tokLtL n ts
  | .fn _ ts => tokLtL n ts
  | .sl _ _ _ => true
  | .any => true
  | .bool _ => true
  | .int _ _ => true
  | .str _ => true
  | .ptr0 => true
  | .fn0 => true
  | .nils => true
  | .rp _ => true
def tokLtL (n : Nat) : List T → Bool
  | [] => true
  | t :: r => tokLt n t && tokLtL n r
end
theorem renL_map (f : Nat → Nat) (l : List T) : renL f l = l.map (ren f) := by
  induction l with
  | nil => rfl
  | cons t r ih => simp only [renL, List.map_cons, ih]
theorem tokLtL_all (n : Nat) (l : List T) : tokLtL n l = l.all (tokLt n) := by
  induction l with
  | nil => rfl
  | cons t r ih => simp only [tokLtL, List.all_cons, ih]
theorem R.ren {hf : AH} {t u : T} {v : Value} {f : Nat → Nat} (h : R hf u v) (e : ren f t = u) : R hf t v := by
  induction h generalizing t with
  | agg ts vs hs h1 ih =>
    cases t <;> simp only [AE.ren] at e <;> first | cases e | skip
    rename_i us
    rw [renL_map] at hs ih
    refine .agg us vs (by simpa using hs) (fun i hi => ih i (by simpa using hi) ?_)
    simp [List.getD_eq_getElem?_getD, hi]
  | tup ts vs hs h1 ih =>
    cases t <;> simp only [AE.ren] at e <;> first | cases e | skip
    rename_i us
    rw [renL_map] at hs ih
    refine .tup us vs (by simpa using hs) (fun i hi => ih i (by simpa using hi) ?_)
    simp [List.getD_eq_getElem?_getD, hi]
  | fn g ts vs hs h1 ih =>
    cases t <;> simp only [AE.ren] at e <;> first | cases e | skip
    rename_i us
    rw [renL_map] at hs ih
    refine .fn _ us vs (by simpa using hs) (fun i hi => ih i (by simpa using hi) ?_)
    simp [List.getD_eq_getElem?_getD, hi]
  | bool b => cases t <;> simp only [AE.ren] at e <;> cases e; exact .bool _
  | int k n => cases t <;> simp only [AE.ren] at e <;> cases e; exact .int _ _
  | str s => cases t <;> simp only [AE.ren] at e <;> cases e; exact .str _
  | ptr0 => cases t <;> simp only [AE.ren] at e <;> cases e; exact .ptr0
  | fn0 => cases t <;> simp only [AE.ren] at e <;> cases e; exact .fn0
  | nils => cases t <;> simp only [AE.ren] at e <;> cases e; exact .nils
  | sl0 sz => cases t <;> simp only [AE.ren] at e <;> cases e; exact .sl0 _
  | sle sz a o m => cases t <;> simp only [AE.ren] at e <;> cases e; exact .sle _ _ _ _
  | sl sz rows o m hm hk hes hlen hfit h1 _ => cases t <;> simp only [AE.ren] at e <;> cases e; exact .sl _ _ _ _ hm hk hes hlen hfit h1
  | rp ts o hk hfit h1 _ => cases t <;> simp only [AE.ren] at e <;> cases e; exact .rp _ _ hk hfit h1
theorem V.ren {σ σ' : Nat → Option Nat} {hf : AH} {nx nx' : Nat} {f : Nat → Nat} {t u : T} {v : Value} (hσ : ∀ k, k < nx' → σ' k = σ (f k)) (h : V σ hf nx u v) (e : ren f t = u) (hl : tokLt nx' t = true) : V σ' hf nx' t v := by
  induction h generalizing t with
  | any v =>
    cases t <;> simp only [AE.ren] at e <;> first | cases e | skip
    exact .any v
  | fz hr => exact .fz (hr.ren e)
  | os sz k lo n m hk hs hm =>
    cases t <;> simp only [AE.ren] at e <;> first | cases e | skip
    rename_i k'
    simp only [tokLt, decide_eq_true_eq] at hl
    exact .os _ _ _ _ m hl ((hσ _ hl).trans hs) hm
  | os0 sz k hk hs =>
    cases t <;> simp only [AE.ren] at e <;> first | cases e | skip
    simp only [tokLt, decide_eq_true_eq] at hl
    exact .os0 _ _ hl ((hσ _ hl).trans hs)
  | ose sz k a o hk hs =>
    cases t <;> simp only [AE.ren] at e <;> first | cases e | skip
    simp only [tokLt, decide_eq_true_eq] at hl
    exact .ose _ _ a o hl ((hσ _ hl).trans hs)
  | op k o hk hs =>
    cases t <;> simp only [AE.ren] at e <;> first | cases e | skip
    simp only [tokLt, decide_eq_true_eq] at hl
    exact .op _ _ hl ((hσ _ hl).trans hs)
  | orp sz k i o hk hs =>
    cases t <;> simp only [AE.ren] at e <;> first | cases e | skip
    simp only [tokLt, decide_eq_true_eq] at hl
    exact .orp _ _ _ _ hl ((hσ _ hl).trans hs)
  | om k hk hs =>
    cases t <;> simp only [AE.ren] at e <;> first | cases e | skip
    simp only [tokLt, decide_eq_true_eq] at hl
    exact .om _ hl ((hσ _ hl).trans hs)
  | agg ts vs hs h1 ih =>
    cases t <;> simp only [AE.ren] at e <;> first | cases e | skip
    rename_i us
    rw [renL_map] at hs ih
    simp only [tokLt, tokLtL_all, List.all_eq_true] at hl
    refine .agg us vs (by simpa using hs) (fun i hi => ih i (by simpa using hi) ?_ (hl _ ?_))
    · simp [List.getD_eq_getElem?_getD, hi]
    · rw [List.getD_eq_getElem?_getD, List.getElem?_eq_getElem hi]; exact List.getElem_mem hi
  | tup ts vs hs h1 ih =>
    cases t <;> simp only [AE.ren] at e <;> first | cases e | skip
    rename_i us
    rw [renL_map] at hs ih
    simp only [tokLt, tokLtL_all, List.all_eq_true] at hl
    refine .tup us vs (by simpa using hs) (fun i hi => ih i (by simpa using hi) ?_ (hl _ ?_))
    · simp [List.getD_eq_getElem?_getD, hi]
    · rw [List.getD_eq_getElem?_getD, List.getElem?_eq_getElem hi]; exact List.getElem_mem hi
  | fn g ts vs hs h1 ih =>
    cases t <;> simp only [AE.ren] at e <;> first | cases e | skip
    rename_i us
    rw [renL_map] at hs ih
    simp only [tokLt, tokLtL_all, List.all_eq_true] at hl
    refine .fn _ us vs (by simpa using hs) (fun i hi => ih i (by simpa using hi) ?_ (hl _ ?_))
    · simp [List.getD_eq_getElem?_getD, hi]
    · rw [List.getD_eq_getElem?_getD, List.getElem?_eq_getElem hi]; exact List.getElem_mem hi
def renO (f : Nat → Nat) : Obj → Obj
  | .cells ts => .cells (renL f ts)
  | o => o
def tokLtO (n : Nat) : Obj → Bool
  | .cells ts => tokLtL n ts
  | _ => true
open Classical in
/-- A state that tells less, its numbers given anew by f. -/
theorem Wk.mk {E : Env} {O : Objs} {nx : Nat} {E' : Env} {O' : List (Nat × Obj)} {nx' : Nat} (f : Nat → Nat) (hE : ∀ x ∈ E', gE E x.1 = ren f x.2 ∧ tokLt nx' x.2 = true) (hO : ∀ x ∈ O', gO O (f x.1) = some (renO f x.2) ∧ x.1 < nx' ∧ tokLtO nx' x.2 = true) (hinj : (O'.map fun x => f x.1).Nodup) :
    Wk E O nx E' (O'.map fun x => (x.1, some x.2)) nx' := fun p h0 σ hf own Ea h hs => by
  have hget : ∀ (L : List (Nat × Obj)) k o, gO (L.map fun x => (x.1, some x.2)) k = some o → (k, o) ∈ L := by
    intro L k o
    induction L with
    | nil => intro h; cases h
    | cons x r ih =>
      intro h
      simp only [List.map_cons, gO] at h
      split at h
      · rename_i e
        obtain rfl := Option.some.inj h
        subst e
        exact List.mem_cons_self
      · exact List.mem_cons_of_mem _ (ih h)
  have hgetE : ∀ (L : Env) t, gE L t = .any ∨ (t, gE L t) ∈ L := by
    intro L t
    induction L with
    | nil => exact .inl rfl
    | cons x r ih =>
      obtain ⟨d, v⟩ := x
      simp only [gE]
      split
      · rename_i e
        subst e
        exact .inr List.mem_cons_self
      · exact ih.imp id (List.mem_cons_of_mem _)
  have hunq : ∀ x ∈ O', ∀ y ∈ O', f x.1 = f y.1 → x = y := by
    clear hE hO hget hgetE
    induction O' with
    | nil => intro x hx; cases hx
    | cons z r ih =>
      simp only [List.map_cons, List.nodup_cons, List.mem_map, not_exists, not_and] at hinj
      intro x hx y hy e
      rcases List.mem_cons.1 hx with rfl | hx2 <;> rcases List.mem_cons.1 hy with rfl | hy2
      · rfl
      · exact absurd e.symm (hinj.1 y hy2)
      · exact absurd e (hinj.1 x hx2)
      · exact ih hinj.2 x hx2 y hy2 e
  let fk : Nat → Option Nat := fun k => if h : ∃ x ∈ O', f x.1 = k then some h.choose.1 else none
  have hfk : ∀ x ∈ O', fk (f x.1) = some x.1 := fun x hx => by
    have hex : ∃ y ∈ O', f y.1 = f x.1 := ⟨x, hx, rfl⟩
    show (if h : ∃ y ∈ O', f y.1 = f x.1 then some h.choose.1 else none) = _
    rw [dif_pos hex]
    obtain ⟨h1, h2⟩ := hex.choose_spec
    rw [hunq _ h1 _ hx h2]
  have hfk2 : ∀ k k', fk k = some k' → ∃ x ∈ O', x.1 = k' ∧ f x.1 = k := fun k k' hk => by
    by_cases hex : ∃ x ∈ O', f x.1 = k
    · have : fk k = some hex.choose.1 := dif_pos hex
      rw [this] at hk
      obtain rfl := Option.some.inj hk
      exact ⟨_, hex.choose_spec.1, rfl, hex.choose_spec.2⟩
    · have : fk k = none := dif_neg hex
      rw [this] at hk; cases hk
  refine ⟨fun k => if k < nx' then σ (f k) else none, hf, fun a => (own a).bind fk, fun t => ?_, fun k o hk => ?_, fun a o ha => ?_, fun a k ha => ?_, hs.base, hs.dom⟩
  · have hσ : ∀ k, k < nx' → (fun k => if k < nx' then σ (f k) else none) k = σ (f k) := fun k hk => if_pos hk
    rcases hgetE E' t with h1 | h1
    · rw [h1]; exact .any _
    · obtain ⟨h2, h3⟩ := hE _ h1
      have h4 := hs.env t
      simp only at h2
      rw [h2] at h4
      exact h4.ren hσ rfl h3
  · have h1 := hget O' k o hk
    obtain ⟨h2, h3, h4⟩ := hO _ h1
    obtain ⟨h5, N, h6, h7, h8⟩ := hs.obj _ _ h2
    refine ⟨h3, N, h6, fun a ha => by simp only [h7 a ha, Option.bind_some]; exact hfk _ h1, ?_⟩
    simp only at h3 h4 h8 ⊢
    rw [if_pos h3]
    cases o with
    | cells ts =>
      simp only [renO] at h8
      generalize σ (f k) = oa at h8
      cases h8 with
      | cells hh hodd hv =>
        refine .cells hh hodd ⟨by have := hv.1; rw [renL_map] at this; simpa using this, fun i hi => ?_⟩
        have h9 := hv.2 i (by rw [renL_map]; simpa using hi)
        rw [renL_map] at h9
        simp only [tokLtO, tokLtL_all, List.all_eq_true] at h4
        refine h9.ren (fun k hk => if_pos hk) (t := ts.getD i .any) ?_ (h4 _ ?_)
        · simp [List.getD_eq_getElem?_getD, hi]
        · rw [List.getD_eq_getElem?_getD, List.getElem?_eq_getElem hi]; exact List.getElem_mem hi
    | rows sz rows =>
      simp only [renO] at h8
      generalize σ (f k) = oa at h8
      cases h8 with
      | none sz => exact .none sz
      | rows hh hodd hlen hfit hsl => exact .rows hh hodd hlen hfit hsl
    | map es =>
      simp only [renO] at h8
      generalize σ (f k) = oa at h8
      cases h8 with
      | map hh hodd g1 g2 => exact .map hh hodd g1 g2
  · obtain ⟨h1, h2⟩ := hs.fro a o ha
    exact ⟨h1, by simp only [h2, Option.bind_none]⟩
  · obtain ⟨k0, e1, e2⟩ := Option.bind_eq_some_iff.1 ha
    obtain ⟨h1, h2, h3, _⟩ := hs.mine a k0 e1
    obtain ⟨x, hx, rfl, _⟩ := hfk2 k0 k e2
    exact ⟨h1, h2, h3, (hO x hx).2.1⟩
attribute [irreducible] vfin
end Go.Proofs.Ythdnjihmjdbdkaa.AE
