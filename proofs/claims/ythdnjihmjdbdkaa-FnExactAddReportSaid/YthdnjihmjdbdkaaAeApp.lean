/- append and the conversions between strings and bytes, in the abstract evaluator, with their laws. Conditions: none. -/
import Derived.Test.YthdnjihmjdbdkaaAeOps2
import Derived.Deep.AppendSrc
namespace Go.Proofs.Ythdnjihmjdbdkaa.AE
open Go Go.RowKit
set_option linter.unusedVariables false
set_option linter.unusedSimpArgs false

theorem Stp.kill {b0 p k : Nat} {ρ : Ren} {H : AH} {W : World} (hR : Rel b0 ρ H W) : Stp b0 p ρ H W ρ (H.upd k none) W := by
  have hs : ∀ u o, H.upd k none u = some o → H u = some o := by
    intro u o hu
    unfold AH.upd at hu
    split at hu
    · cases hu
    · exact hu
  have hn : ∀ u, H.upd k none u ≠ none → H u ≠ none := by
    intro u hu
    obtain ⟨o, ho⟩ := Option.ne_none_iff_exists'.1 hu
    rw [hs u o ho]
    simp
  exact ⟨.refl _ _, ⟨fun u o hu => hR.tok u o (hs u o hu), fun u u' s s' h1 h2 h3 h4 => hR.inj u u' s s' h1 h2 (hn u h3) (hn u' h4), hR.le⟩, Nat.le_refl _, fun _ _ _ => rfl, fun b ⟨u, s, h1, h2, h3, h4⟩ => .inl ⟨u, s, h1, hn u h2, h3, h4⟩, fun u hu => .inl (hn u hu), ⟨rfl, rfl, rfl⟩⟩
def bcells (s : ByteArray) : List Value := byteCells s
theorem bcells_closed (s : ByteArray) : ∀ v ∈ bcells s, closed1 v = true := by
  intro v hv
  unfold bcells byteCells at hv
  obtain ⟨_, _, rfl⟩ := List.mem_map.1 hv
  rfl
theorem LR.closed {ρ : Ren} {l : List Value} (h : ∀ v ∈ l, closed1 v = true) : LR ρ l l := ⟨rfl, fun i hi => by
  rw [List.getD_eq_getElem?_getD, List.getElem?_eq_getElem hi]
  exact .closed1 (h _ (List.getElem_mem hi))⟩
theorem closed1_one {v : Value} (h : closed1 v = true) : v.oneCell' = true := by cases v <;> simp [closed1] at h <;> rfl
def asrc (P : Program) (sz : Nat) (xt : TypeId) (H : AH) (x : Value) : Option (Nat × List Value) :=
  match P.underlying xt, x with
  | some (.slice _), .slice none 0 0 => some (0, [])
  | some (.slice _), .slice (some ⟨k, o, none⟩) n _ =>
    if n = 0 then some (0, []) else
    match H k with
    | some (.cells _ cs) => if o + n * sz ≤ cs.length ∧ ((cs.drop o).take (n * sz)).all (·.oneCell') = true then some (n, (cs.drop o).take (n * sz)) else none
    | _ => none
  | some .string, .string s => if sz = 1 then some (s.size, bcells s) else none
  | _, _ => none
theorem LR.one {ρ : Ren} {a b : List Value} (h : LR ρ a b) (ha : a.all (·.oneCell') = true) : ∀ u ∈ b, u.oneCell' = true := by
  intro u hu
  obtain ⟨i, hi⟩ := List.getElem?_of_mem hu
  have hlt : i < b.length := (List.getElem?_eq_some_iff.1 hi).1
  have h1 := (h.2 i (by rw [h.1]; exact hlt)).oneCell
  have h2 : i < a.length := by rw [h.1]; exact hlt
  have h3 := List.all_eq_true.1 ha _ (List.getElem_mem h2)
  rw [List.getD_eq_getElem?_getD, hi, Option.getD_some, List.getD_eq_getElem?_getD, List.getElem?_eq_getElem h2, Option.getD_some] at h1
  rw [h1]
  exact h3
theorem asrc_sound {P : Program} {b0 sz : Nat} {ρ : Ren} {H : AH} {W : World} {xt : TypeId} {x x' : Value} {n : Nat} {news : List Value} (h : asrc P sz xt H x = some (n, news)) (hx : VR ρ x x') (hR : Rel b0 ρ H W) :
    ∃ news', Src P sz xt x' n news' W ∧ LR ρ news news' ∧ news.length = n * sz := by
  unfold asrc at h
  split at h
  · rename_i e hu
    simp only [Option.some.injEq, Prod.mk.injEq] at h
    obtain ⟨rfl, rfl⟩ := h
    cases hx
    exact ⟨[], Src.ofNil W hu 0, LR.nil ρ, by simp⟩
  · rename_i e k o m c hu
    split at h
    · rename_i h0
      simp only [Option.some.injEq, Prod.mk.injEq] at h
      obtain ⟨rfl, rfl⟩ := h
      subst h0
      cases hx with
      | sl => exact ⟨[], Src.ofSlice W hu _ 0 _ [] (by simp) (fun j u hj => by simp at hj) (fun u hu => by cases hu), LR.nil ρ, by simp⟩
      | sle => exact ⟨[], Src.ofSlice W hu _ 0 _ [] (by simp) (fun j u hj => by simp at hj) (fun u hu => by cases hu), LR.nil ρ, by simp⟩
    · rename_i h0
      split at h
      · rename_i es cs hk
        split at h
        · rename_i hc
          simp only [Option.some.injEq, Prod.mk.injEq] at h
          obtain ⟨rfl, rfl⟩ := h
          have ht := hR.tok k _ hk
          cases hx with
          | @sl _ s _ _ _ cc hs hn hf hm =>
            obtain ⟨us, hul, hrun, hlr⟩ := tok_cells hs ht hc.1
            obtain ⟨s', hs', he, arr, ty, fr, ha, hal, hav, hw, hev⟩ := ht
            rw [hs] at hs'
            cases hs'
            have hlen : ((arr.toList.drop (s.base + o)).take (m * sz)).length = m * sz := by
              rw [List.length_take, List.length_drop, Array.length_toList]
              have := hc.1
              omega
            have hlr2 : LR ρ ((cs.drop o).take (m * sz)) ((arr.toList.drop (s.base + o)).take (m * sz)) := by
              refine ⟨by rw [hlen, List.length_take, List.length_drop]; have := hc.1; omega, fun i hi => ?_⟩
              have hi' : i < m * sz := by rw [List.length_take, List.length_drop] at hi; omega
              have h1 := hav (o + i) (by have := hc.1; omega)
              have e1 : ((cs.drop o).take (m * sz)).getD i undef = cs.getD (o + i) undef := by
                simp [List.getD_eq_getElem?_getD, List.getElem?_take, hi', List.getElem?_drop]
              have e2 : ((arr.toList.drop (s.base + o)).take (m * sz)).getD i undef = arr.getD (s.base + (o + i)) undef := by
                simp [List.getD_eq_getElem?_getD, List.getElem?_take, hi', List.getElem?_drop, Array.getD_eq_getD_getElem?, Nat.add_assoc]
              rw [e1, e2]
              exact h1
            refine ⟨_, Src.ofSlice W hu _ m _ _ hlen (fun j v hj => ?_) (LR.one hlr2 hc.2), hlr2, by rw [hlr2.1, hlen]⟩
            rw [add_none]
            rw [List.getElem?_take] at hj
            split at hj
            · rw [List.getElem?_drop] at hj
              simpa [World.cell?, ha] using hj
            · cases hj
          | sle => exact absurd rfl h0
        · cases h
      · cases h
  · rename_i s hu
    split at h
    · rename_i hsz
      subst hsz
      simp only [Option.some.injEq, Prod.mk.injEq] at h
      obtain ⟨rfl, rfl⟩ := h
      cases hx
      exact ⟨byteCells s, Src.ofString W hu s, LR.closed (bcells_closed s), by simp [bcells, byteCells_length]⟩
    · cases h
  · cases h
def aappend (P : Program) (p : Nat) (t xt : TypeId) (H : AH) (s x : Value) : Option AR :=
  match P.underlying t with
  | some (.slice e) =>
    match asrc P (P.cellsOf e) xt H x, zeroOf P e with
    | some (n, news), some z =>
      if z.cells.size = P.cellsOf e ∧ 2 * n * P.bytesOf e ≤ 281474976710656 ∧ n ≤ 4611686018427387903 ∧ 0 < P.cellsOf e then
        match s with
        | .slice none 0 0 => if n = 0 then some (.val s H) else some (.val (.slice (some ⟨tokOf p, 0, none⟩) n 1) (H.upd (tokOf p) (some (.cells (P.cellsOf e) news))))
        | .slice (some ⟨k, o, none⟩) len m =>
          if n = 0 then some (.val s H)
          else if m = 0 then (if len = 0 then some (.val (.slice (some ⟨tokOf p, 0, none⟩) n 1) (H.upd (tokOf p) (some (.cells (P.cellsOf e) news)))) else none)
          else
            match H k with
            | some (.cells es cs) =>
              if k % 2 = 1 ∧ es = P.cellsOf e ∧ (len = 0 ∨ o + len * P.cellsOf e ≤ cs.length) ∧ 2 * (len + n) * P.bytesOf e ≤ 281474976710656 ∧ len ≤ 4611686018427387904 then
                some (.val (.slice (some ⟨tokOf p, 0, none⟩) (len + n) 1) ((H.upd k none).upd (tokOf p) (some (.cells (P.cellsOf e) ((cs.drop o).take (len * P.cellsOf e) ++ news)))))
              else none
            | _ => none
        | _ => none
      else none
    | _, _ => none
  | _ => none
theorem zeroCells_length (z : Array Value) (n : Nat) : (Builtin.zeroCells z n).size = n * z.size := by simp [Builtin.zeroCells]
/-- A new row behind a draw. -/
theorem Stp.grown {b0 p es : Nat} {ρ : Ren} {H : AH} {W : World} {cs cs' : List Value} {rest : Array Value} {ty : TypeId} {c : Nat} (hR : Rel b0 ρ H W) (hf : ∀ t, Under p t → ρ t = none) (hp : p % 2 = 1) (hv : LR ρ cs cs') (hsz : c ≤ cs'.length + rest.size) :
    ∃ ρ' : Ren, ρ' (tokOf p) = some ⟨W.heap.size, 0, c, es⟩ ∧ Stp b0 p ρ H W ρ' (H.upd (tokOf p) (some (.cells es cs))) (W.drew.alloc (.cells (cs'.toArray ++ rest) ty)) := by
  refine ⟨_, ?_, Stp.new (sz := c) (arr := cs'.toArray ++ rest) (ty := ty) (fr := (0, 0)) hR hf hp rfl rfl (by simp [hv.1]) (fun i hi => ?_) (by simpa using hsz) (fun off _ => by omega)⟩
  · simp [tokOf]
  · have h1 := hv.2 i hi
    have h2 : i < cs'.length := by rw [← hv.1]; exact hi
    simpa [Array.getD_eq_getD_getElem?, List.getD_eq_getElem?_getD, Array.getElem?_append, h2] using h1
theorem grownCap_ge (W : World) (need old : Nat) (e : TypeId) : need ≤ grownCap W need old e := by
  unfold grownCap
  simp only [Question.cut]
  omega
theorem grow_sound {P : Program} {b0 p : Nat} {ρ : Ren} {H : AH} {W : World} {t xt ty e : TypeId} {i : TypeInfo} {z : Value} {base : Option Addr} {len cap n : Nat} {olds olds' news news' : List Value} {x' : Value} (hu : P.underlying t = some (.slice e)) (hi : P.info? e = some i) (hz : i.zero = some z) (hzs : z.cells.size = i.size)
    (hR : Rel b0 ρ H W) (hf : ∀ t, Under p t → ρ t = none) (hp : p % 2 = 1) (hsrc : Src P i.size xt x' n news' W) (hnews : LR ρ news news') (hnl : news'.length = n * i.size) (hold : LR ρ olds olds') (hol : olds'.length = len * i.size)
    (hrun : (Builtin.firstCells i.size len (.slice base len cap)).run P W.drew = .ok olds'.toArray W.drew) (hg : cap < len + n) (h1 : 2 * (len + n) * i.bytes ≤ 281474976710656) (h2 : len + n ≤ 9223372036854775807) :
    ∃ v' W' ρ', (Builtin.append_ #[t, xt] ty #[.slice base len cap, x']).run P W = .ok v' W' ∧ Stp b0 p ρ H W ρ' (H.upd (tokOf p) (some (.cells i.size (olds ++ news)))) W' ∧ VR ρ' (.slice (some ⟨tokOf p, 0, none⟩) (len + n) 1) v' := by
  have hfit : Builtin.nextslicecap (len + n) cap * i.bytes ≤ 281474976710656 := Nat.le_trans (Nat.mul_le_mul_right _ (nextslicecap_le hg)) h1
  have hr := run_append_grow_src (P := P) W t xt ty e i z hu hi hz base len cap olds' hrun x' n news' hsrc hg (by omega) hfit
  have hge := grownCap_ge W (len + n) cap e
  obtain ⟨ρ', h3, h4⟩ := Stp.grown (es := i.size) (ty := e) (rest := Builtin.zeroCells z.cells (grownCap W (len + n) cap e - (len + n))) (c := grownCap W (len + n) cap e * i.size) hR hf hp (hold.append hnews) (by
    rw [List.length_append, hol, hnl, zeroCells_length, hzs, ← Nat.add_mul, ← Nat.add_mul]
    exact Nat.mul_le_mul_right _ (by omega))
  refine ⟨_, _, ρ', hr, h4, ?_⟩
  exact VR.sl (ρ := ρ') (s := ⟨W.heap.size, 0, grownCap W (len + n) cap e * i.size, i.size⟩) 0 (len + n) 1 _ h3 hge (.inr (by simp)) (by simp)
/-- Room behind the length: the same block under a new name. -/
theorem room_sound {P : Program} {b0 p k o len cap n es : Nat} {ρ : Ren} {H : AH} {W : World} {t xt ty e : TypeId} {i : TypeInfo} {s : Slot} {o' : Nat} {cs news news' : List Value} {x' : Value} (hu : P.underlying t = some (.slice e)) (hi : P.info? e = some i)
    (hR : Rel b0 ρ H W) (hf : ∀ t, Under p t → ρ t = none) (hp : p % 2 = 1) (hsrc : Src P i.size xt x' n news' W) (hnews : LR ρ news news') (hnl : news'.length = n * i.size)
    (hk : H k = some (.cells es cs)) (hodd : k % 2 = 1) (hs : ρ k = some s) (hes : es = i.size) (hpos : 0 < i.size) (hfits : o' + cap * s.es ≤ s.sz) (hold : LR ρ ((cs.drop o).take (len * i.size)) ((cs.drop o).take (len * i.size)) ∨ True)
    (hof : len = 0 ∨ (o + len * i.size ≤ cs.length ∧ o' = s.base + o)) (hroom : len + n ≤ cap) :
    ∃ W' ρ', (Builtin.append_ #[t, xt] ty #[.slice (some ⟨s.b, o', none⟩) len cap, x']).run P W = .ok (.slice (some ⟨s.b, o', none⟩) (len + n) cap) W' ∧
      Stp b0 p ρ H W ρ' ((H.upd k none).upd (tokOf p) (some (.cells i.size ((cs.drop o).take (len * i.size) ++ news)))) W' ∧ VR ρ' (.slice (some ⟨tokOf p, 0, none⟩) (len + n) 1) (.slice (some ⟨s.b, o', none⟩) (len + n) cap) := by
  obtain ⟨s', hs', he, arr, ty0, fr, ha, hal, hav, hw, hev⟩ := hR.tok k _ hk
  rw [hs] at hs'
  cases hs'
  obtain ⟨hb0, hsz, hfr⟩ := hw hodd
  have hse : s.es = i.size := he.trans hes
  rw [hse] at hfits
  have hcapm : (len + n) * i.size ≤ cap * i.size := Nat.mul_le_mul_right _ hroom
  have hbound : o' + len * i.size + news'.length ≤ arr.size := by
    rw [hnl]
    rw [Nat.add_mul] at hcapm
    omega
  have hrun := run_append_room_src (P := P) W t xt ty e i hu hi s.b o' len cap x' n news' hsrc hroom (fun j hj => by
    have : o' + len * i.size + j < arr.size := by omega
    simp [World.cell?, ha, this]) (fun j hj => hfr _ (by omega))
  obtain ⟨arr', ha', hsz', hg⟩ := setCells_heap s.b news' (o' + len * i.size) W arr ty0 fr ha hbound
  have hother : ∀ c, c ≠ s.b → (W.setCells s.b (o' + len * i.size) news').heap[c]? = W.heap[c]? := fun c hc => setCells_other _ _ _ _ _ hc
  have htk : ρ (tokOf p) = none := hf _ (.step 0 .refl)
  have hne : tokOf p ≠ k := fun h => by rw [h, hs] at htk; cases htk
  have hρ : ∀ u q, ρ u = some q → (fun u => if u = tokOf p then some (⟨s.b, o', s.sz, s.es⟩ : Slot) else ρ u) u = some q := by
    intro u q e
    have : u ≠ tokOf p := fun he => by rw [he, htk] at e; cases e
    simp only [if_neg this]
    exact e
  have hold2 : ∀ u, u ≠ tokOf p → ((H.upd k none).upd (tokOf p) (some (.cells i.size ((cs.drop o).take (len * i.size) ++ news)))) u ≠ none → H u ≠ none ∧ u ≠ k := by
    intro u hut hu
    unfold AH.upd at hu
    rw [if_neg hut] at hu
    by_cases huk : u = k
    · rw [if_pos huk] at hu
      exact absurd rfl hu
    · rw [if_neg huk] at hu
      exact ⟨hu, huk⟩
  refine ⟨_, fun u => if u = tokOf p then some ⟨s.b, o', s.sz, s.es⟩ else ρ u, hrun, ⟨⟨hρ, fun u hu => ?_⟩, ⟨fun u obj hu => ?_, ?_, ?_⟩, ?_, fun b hb hn => ?_, ?_, fun u hu => ?_, setCells_same _ _ _ _⟩, ?_⟩
  · by_cases hut : u = tokOf p
    · exact .inr (by rw [hut]; exact .step 0 .refl)
    · simp only [if_neg hut] at hu
      exact .inl hu
  · by_cases hut : u = tokOf p
    · subst hut
      simp only [AH.upd, if_true] at hu
      obtain rfl := Option.some.inj hu
      have hlen1 : ((cs.drop o).take (len * i.size)).length = len * i.size := by
        rcases hof with h0 | h0
        · simp [h0]
        · rw [List.length_take, List.length_drop]; omega
      refine ⟨⟨s.b, o', s.sz, s.es⟩, by simp, hse, arr', ty0, fr, ha', ?_, fun j hj => ?_, fun _ => ⟨hb0, by simp only; omega, fun off hoff => ?_⟩, fun h0 => ?_⟩
      · rw [List.length_append, hlen1, hnews.1, hsz']
        simp only
        omega
      · simp only
        rw [hg]
        rw [List.length_append, hlen1] at hj
        by_cases hjl : j < len * i.size
        · rw [if_neg (by omega)]
          rcases hof with h0 | ⟨h0, h01⟩
          · rw [h0] at hjl
            omega
          · have h5 := hav (o + j) (by omega)
            have e1 : (((cs.drop o).take (len * i.size)) ++ news).getD j undef = cs.getD (o + j) undef := by
              rw [List.getD_eq_getElem?_getD, List.getElem?_append_left (by omega), List.getElem?_take, if_pos hjl, List.getElem?_drop, ← List.getD_eq_getElem?_getD]
            rw [e1]
            have h6 := h5.mono hρ
            rw [← Nat.add_assoc, ← h01] at h6
            exact h6
        · have hjn : j - len * i.size < news.length := by omega
          rw [if_pos (by rw [← hnews.1]; omega)]
          have h5 := hnews.2 (j - len * i.size) hjn
          have e1 : (((cs.drop o).take (len * i.size)) ++ news).getD j undef = news.getD (j - len * i.size) undef := by
            rw [List.getD_eq_getElem?_getD, List.getElem?_append_right (by omega), hlen1, ← List.getD_eq_getElem?_getD]
          rw [e1, show o' + j - (o' + len * i.size) = j - len * i.size by omega]
          exact h5.mono hρ
      · rw [World.frozen?_setCells]
        exact hfr off (by omega)
      · have := child_odd p 0
        unfold tokOf at h0
        omega
    · have hh := hold2 u hut (by rw [hu]; simp)
      unfold AH.upd at hu
      rw [if_neg hut, if_neg hh.2] at hu
      have h1 := hR.tok u obj hu
      refine h1.mono hρ (fun s2 hs2 => hother _ (fun hbe => hh.2 ?_))
      exact hR.same (by rw [hk]; simp) hodd hs (by rw [hu]; simp) hs2 hbe
  · intro u u' s1 s2 h1 h2 h3 h4 h5 h6 h7
    by_cases hut : u = tokOf p <;> by_cases hut' : u' = tokOf p
    · rw [hut, hut']
    · have hh := hold2 u' hut' h4
      simp only [if_pos hut, Option.some.injEq] at h5
      simp only [if_neg hut'] at h6
      rw [← h5] at h7
      exact absurd (hR.same (by rw [hk]; simp) hodd hs hh.1 h6 h7.symm) hh.2
    · have hh := hold2 u hut h3
      simp only [if_pos hut', Option.some.injEq] at h6
      simp only [if_neg hut] at h5
      rw [← h6] at h7
      exact absurd (hR.same (by rw [hk]; simp) hodd hs hh.1 h5 h7) hh.2
    · have hh := hold2 u hut h3
      have hh' := hold2 u' hut' h4
      simp only [if_neg hut] at h5
      simp only [if_neg hut'] at h6
      exact hR.inj u u' s1 s2 h1 h2 hh.1 hh'.1 h5 h6 h7
  · rw [setCells_size]
    exact hR.le
  · rw [setCells_size]
    exact Nat.le_refl _
  · exact hother b (fun hbe => hn ⟨k, s, hodd, by rw [hk]; simp, hs, hbe.symm⟩)
  · rintro b ⟨u, s1, h1, h2, h3, h4⟩
    by_cases hut : u = tokOf p
    · simp only [if_pos hut, Option.some.injEq] at h3
      rw [← h3] at h4
      exact .inl ⟨k, s, hodd, by rw [hk]; simp, hs, h4⟩
    · have hh := hold2 u hut h2
      simp only [if_neg hut] at h3
      exact .inl ⟨u, s1, h1, hh.1, h3, h4⟩
  · by_cases hut : u = tokOf p
    · exact .inr (by rw [hut]; exact .step 0 .refl)
    · exact .inl (hold2 u hut hu).1
  · have := VR.sl (ρ := fun u => if u = tokOf p then some (⟨s.b, o', s.sz, s.es⟩ : Slot) else ρ u) (t := tokOf p) (s := ⟨s.b, o', s.sz, s.es⟩) 0 (len + n) 1 cap (by simp) hroom (.inr (by simp only [Nat.add_zero]; rw [hse]; exact hfits)) (by simp)
    simpa using this
theorem aappend_sound {P : Program} {b0 p : Nat} {ρ : Ren} {H : AH} {W : World} {t xt ty : TypeId} {s s' x x' : Value} {r : AR} (h : aappend P p t xt H s x = some r) (hs : VR ρ s s') (hx : VR ρ x x') (hR : Rel b0 ρ H W) (hf : ∀ t, Under p t → ρ t = none) (hp : p % 2 = 1) :
    ∃ v H' u W' ρ', r = .val v H' ∧ (Builtin.append_ #[t, xt] ty #[s', x']).run P W = .ok u W' ∧ Stp b0 p ρ H W ρ' H' W' ∧ VR ρ' v u := by
  unfold aappend at h
  split at h
  · rename_i e hu
    obtain ⟨i, hi⟩ : ∃ i, P.info? e = some i := by
      split at h
      · rename_i hz
        obtain ⟨i, hi, _⟩ := Option.bind_eq_some_iff.1 hz
        exact ⟨i, hi⟩
      · cases h
    have hce : P.cellsOf e = i.size := by simp [Program.cellsOf, hi]
    have hbe : P.bytesOf e = i.bytes := by simp [Program.bytesOf, hi]
    rw [hce, hbe] at h
    split at h
    · rename_i n news z hsr hz
      obtain ⟨i2, hi2, hiz⟩ := Option.bind_eq_some_iff.1 hz
      rw [hi] at hi2
      cases hi2
      obtain ⟨news', hsrc, hlr, hnl⟩ := asrc_sound hsr hx hR
      have hnl' : news'.length = n * i.size := by rw [← hlr.1]; exact hnl
      split at h
      · rename_i hc
        obtain ⟨hzs, hb1, hb2, hpos⟩ := hc
        split at h
        · -- nil
          cases hs
          split at h
          · rename_i hn0
            subst hn0
            obtain rfl := Option.some.inj h
            refine ⟨_, _, .slice none 0 0, W, ρ, rfl, ?_, .refl hR, .sl0⟩
            rcases hsrc.kind with ⟨e', hk⟩ | hk <;> simp [Builtin.append_, run_underlying hu, run_underlying hk, sizeOf, typeInfo, hi, hsrc.len, hsrc.cells, storeCells]
          · rename_i hn0
            obtain rfl := Option.some.inj h
            obtain ⟨v', W', ρ', h1, h2, h3⟩ := grow_sound (ty := ty) (base := none) (len := 0) (cap := 0) (olds := []) (olds' := []) hu hi hiz hzs hR hf hp hsrc hlr hnl' (LR.nil ρ) (by simp) (by simp [Builtin.firstCells]) (by omega) (by simpa using hb1) (by omega)
            exact ⟨_, _, v', W', ρ', rfl, h1, by simpa using h2, by simpa using h3⟩
        · rename_i k o len m
          split at h
          · rename_i hn0
            subst hn0
            obtain rfl := Option.some.inj h
            have hnn : news' = [] := List.eq_nil_of_length_eq_zero (by simpa using hnl')
            subst hnn
            cases hs with
            | @sl _ q _ _ _ c hq hn hfit hm =>
              have := run_append_room_src (P := P) W t xt ty e i hu hi q.b (q.base + o) len c x' 0 [] hsrc (by omega) (fun j hj => by simp at hj) (fun j hj => by simp at hj)
              exact ⟨_, _, _, W, ρ, rfl, by simpa [World.setCells] using this, .refl hR, .sl _ _ _ _ hq hn hfit hm⟩
            | @sle _ q _ o' _ c sp hq hfit hm hsp =>
              refine ⟨_, _, .slice (some ⟨q.b, o', sp⟩) 0 c, W, ρ, rfl, ?_, .refl hR, .sle _ _ _ _ sp hq hfit hm hsp⟩
              rcases hsp with rfl | rfl
              · have := run_append_room_src (P := P) W t xt ty e i hu hi q.b o' 0 c x' 0 [] hsrc (by omega) (fun j hj => by simp at hj) (fun j hj => by simp at hj)
                simpa [World.setCells] using this
              · rcases hsrc.kind with ⟨e', hk⟩ | hk <;> simp [Builtin.append_, run_underlying hu, run_underlying hk, sizeOf, typeInfo, hi, hsrc.len, hsrc.cells, storeCells]
          · rename_i hn0
            split at h
            · rename_i hm0
              split at h
              · rename_i hl0
                obtain rfl := Option.some.inj h
                have key : ∀ a : Addr, s' = .slice (some a) 0 0 → ∃ v H' u W' ρ', AR.val (.slice (some ⟨tokOf p, 0, none⟩) n 1) (H.upd (tokOf p) (some (.cells i.size news))) = .val v H' ∧ (Builtin.append_ #[t, xt] ty #[s', x']).run P W = .ok u W' ∧ Stp b0 p ρ H W ρ' H' W' ∧ VR ρ' v u := by
                  rintro a rfl
                  obtain ⟨v', W', ρ', h1, h2, h3⟩ := grow_sound (ty := ty) (base := some a) (len := 0) (cap := 0) (olds := []) (olds' := []) hu hi hiz hzs hR hf hp hsrc hlr hnl' (LR.nil ρ) (by simp) (by simp [Builtin.firstCells, loadCells, loadCellsFrom]) (by omega) (by simpa using hb1) (by omega)
                  exact ⟨_, _, v', W', ρ', rfl, h1, by simpa using h2, by simpa using h3⟩
                cases hs with
                | @sl _ q _ _ _ c hq hn hfit hm =>
                  have hc0 := hm hm0
                  subst hc0
                  subst hl0
                  exact key _ rfl
                | @sle _ q _ o' _ c sp hq hfit hm hsp =>
                  have hc0 := hm hm0
                  subst hc0
                  exact key _ rfl
              · cases h
            · rename_i hm0
              split at h
              · rename_i es cs hk
                split at h
                · rename_i hcc
                  obtain ⟨hodd, hes, hlo, hb3, hb4⟩ := hcc
                  obtain rfl := Option.some.inj h
                  obtain ⟨q0, hq0, hqe, _⟩ := hR.tok k _ hk
                  have main : ∀ (o' c : Nat) (sp : Option Nat), s' = .slice (some ⟨q0.b, o', sp⟩) len c → (sp = none ∨ c = 0) → len ≤ c → (len = 0 ∨ o' = q0.base + o) → (q0.es = 0 ∨ o' + c * q0.es ≤ q0.sz) →
                      ∃ v H' u W' ρ', AR.val (.slice (some ⟨tokOf p, 0, none⟩) (len + n) 1) ((H.upd k none).upd (tokOf p) (some (.cells i.size ((cs.drop o).take (len * i.size) ++ news)))) = .val v H' ∧ (Builtin.append_ #[t, xt] ty #[s', x']).run P W = .ok u W' ∧ Stp b0 p ρ H W ρ' H' W' ∧ VR ρ' v u := by
                    rintro o' c sp rfl hsp hlc ho' hfit
                    have hfit' : o' + c * q0.es ≤ q0.sz := hfit.resolve_left (by rw [hqe, hes]; omega)
                    by_cases hroom : len + n ≤ c
                    · obtain rfl : sp = none := hsp.resolve_right (by omega)
                      obtain ⟨W', ρ', h1, h2, h3⟩ := room_sound (ty := ty) (o := o) hu hi hR hf hp hsrc hlr hnl' hk hodd hq0 hes hpos hfit' (.inr trivial) (by rcases hlo with h0 | h0; exact .inl h0; exact ho'.elim .inl (fun h5 => .inr ⟨h0, h5⟩)) hroom
                      exact ⟨_, _, _, W', ρ', rfl, h1, h2, h3⟩
                    · -- grown
                      have hkill : Stp b0 p ρ H W ρ (H.upd k none) W := Stp.kill hR
                      obtain ⟨olds', holen, hrun, holr⟩ : ∃ olds' : List Value, olds'.length = len * i.size ∧ (Builtin.firstCells i.size len (.slice (some ⟨q0.b, o', sp⟩) len c)).run P W.drew = .ok olds'.toArray W.drew ∧ LR ρ ((cs.drop o).take (len * i.size)) olds' := by
                        rcases hlo with h0 | h0
                        · subst h0
                          exact ⟨[], by simp, by simp [Builtin.firstCells, loadCells, loadCellsFrom], by simpa using LR.nil ρ⟩
                        · rcases ho' with h5 | h5
                          · subst h5
                            exact ⟨[], by simp, by simp [Builtin.firstCells, loadCells, loadCellsFrom], by simpa using LR.nil ρ⟩
                          · subst h5
                            by_cases hl0 : len = 0
                            · subst hl0
                              exact ⟨[], by simp, by simp [Builtin.firstCells, loadCells, loadCellsFrom], by simpa using LR.nil ρ⟩
                            obtain rfl : sp = none := hsp.resolve_right (by omega)
                            have hR' : Rel b0 ρ H W.drew := hR.world rfl
                            obtain ⟨us, h6, h7, h8⟩ := tok_cells hq0 (hR'.tok k _ hk) h0
                            exact ⟨us, h6, by simpa [Builtin.firstCells] using h7 P, h8⟩
                      obtain ⟨v', W', ρ', h1, h2, h3⟩ := grow_sound (ty := ty) (base := some ⟨q0.b, o', sp⟩) (len := len) (cap := c) hu hi hiz hzs hkill.rel hf hp hsrc hlr hnl' holr holen hrun (by omega) hb3 (by omega)
                      exact ⟨_, _, v', W', ρ', rfl, h1, hkill.trans h2, h3⟩
                  cases hs with
                  | @sl _ q _ _ _ c hq hn hfit hm =>
                    rw [hq0] at hq
                    cases hq
                    exact main _ c none rfl (.inl rfl) hn (.inr rfl) hfit
                  | @sle _ q _ o' _ c sp hq hfit hm hsp =>
                    rw [hq0] at hq
                    cases hq
                    exact main o' c sp rfl hsp (Nat.zero_le _) (.inl rfl) hfit
                · cases h
              · cases h
        · cases h
      · cases h
    · cases h
  · cases h
end Go.Proofs.Ythdnjihmjdbdkaa.AE
